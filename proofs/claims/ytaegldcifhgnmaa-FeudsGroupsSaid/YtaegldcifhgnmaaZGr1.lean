/- The groups of drovers, plain. -/
import Derived.Test.YtaegldcifhgnmaaZGr0
import Derived.Test.YtaegldcifhgnmaaProg
import Derived.Below
import Derived.Deep.Draws
import Derived.Deep.AppendLies
import Derived.Maps.AppendAt
import Derived.OwnWalk
import Derived.Laws.BytesArg
import Derived.Laws.MakeOwn
import Derived.Laws.OwnMore
import Derived.Deep.OwnRows
import Derived.Tactics
import Derived.Lib.ConvBytes
import Derived.Laws.Slices
import Derived.WalkKit
import Derived.KernelRfl
import Derived.RowKit3
import Derived.Deep.LoopGhost
import Derived.Deep.QuietTactic
import Derived.BigQuiet
import Derived.WideLaws
import Derived.Deep.DeepCutAuto
import Derived.Deep.CutBlock
import Derived.Deep.RegionHeld3
import Derived.Laws.Rows
import Derived.Lib.AppendStr
import Derived.ArgAppend
import Derived.Laws.IdiomCopy
import Derived.OrdersHeld
import Derived.Laws.BitsLemmas
import Derived.RowKit
import Derived.Test.YtaegldcifhgnmaaWWords
import Derived.Test.YtaegldcifhgnmaaWLast
import Derived.Test.YtaegldcifhgnmaaWTab
import Derived.Test.YtaegldcifhgnmaaWFour
import Derived.Test.YtaegldcifhgnmaaWQPut
import Derived.Test.YtaegldcifhgnmaaWApart
import Derived.Test.YtaegldcifhgnmaaWArr
import Derived.Test.YtaegldcifhgnmaaWZeros
import Derived.Test.YtaegldcifhgnmaaWFoot
import Derived.Test.YtaegldcifhgnmaaWKept
import Derived.Test.YtaegldcifhgnmaaWShare
import Derived.Test.YtaegldcifhgnmaaWN
import Derived.Test.YtaegldcifhgnmaaWFootNe
import Derived.Test.YtaegldcifhgnmaaWAt
import Derived.Test.YtaegldcifhgnmaaWEqStruct
import Derived.Test.YtaegldcifhgnmaaWRepsOne
import Derived.Test.YtaegldcifhgnmaaWInv
import Derived.Test.YtaegldcifhgnmaaWInvWords
import Derived.Test.YtaegldcifhgnmaaWGuard
import Derived.Test.YtaegldcifhgnmaaWNEv
import Derived.Test.YtaegldcifhgnmaaWMore
/- The groups of drovers, plain. -/
namespace Go.Proofs.Ytaegldcifhgnmaa.A
open Go.RowKit Go.Proofs.YtaegldcifhgnmaaW.PrintWords Go.Proofs.YtaegldcifhgnmaaW.PrintMore

/-- a without b. -/
def less (a b : Nat) : Nat := a ^^^ (a &&& b)
theorem tb_less (a b i : Nat) : (less a b).testBit i = (a.testBit i && !b.testBit i) := by
  unfold less
  rw [Nat.testBit_xor, Nat.testBit_and]
  cases a.testBit i <;> cases b.testBit i <;> rfl
theorem less_lt {a b k : Nat} (h : a < 2 ^ k) : less a b < 2 ^ k := Nat.xor_lt_two_pow h (Nat.lt_of_le_of_lt Nat.and_le_left h)
theorem andNot64 (a b : Nat) (ha : a < 2 ^ 62) (_hb : b < 2 ^ 62) : bits .andNot .i64 (a : Int) (b : Int) = ((less a b : Nat) : Int) := by
  have e : (BitVec.ofInt IntKind.i64.bits (a : Int) &&& ~~~ BitVec.ofInt IntKind.i64.bits (b : Int)).toNat = less a b := by
    rw [BitVec.ofInt_natCast, BitVec.ofInt_natCast]
    apply Nat.eq_of_testBit_eq
    intro i
    rw [tb_less, BitVec.testBit_toNat, BitVec.getLsbD_and, BitVec.getLsbD_not, BitVec.getLsbD_ofNat, BitVec.getLsbD_ofNat]
    by_cases hi : i < IntKind.i64.bits
    · simp [hi]
    · rw [tb_big ha (j := i) (by have : IntKind.i64.bits = 64 := rfl; omega)]
      simp
  show IntKind.i64.wrap _ = _
  simp only [e]
  exact wrap64_nat _ (by omega) (by exact_mod_cast less_lt ha)

/-- The least drover of a set, as a set. -/
def lowB (x : Nat) : Nat := less x (x - 1)
theorem low_table : (List.range 256).all (fun x => decide (bits .and .i64 (x : Int) (-(x : Int)) = (lowB x : Int))) = true := by decide +kernel
theorem low_ask {x : Nat} (h : x < 256) : bits .and .i64 (x : Int) (-(x : Int)) = (lowB x : Int) := by
  have := List.all_eq_true.1 low_table x (List.mem_range.2 h)
  exact of_decide_eq_true this

def pairB (t : S39) : Nat := 2 ^ t.f0.toNat ||| 2 ^ t.f1.toNat
/-- A set, with the drovers that a tie adds. -/
def addT (q : S39 → Bool) (t : S39) (x : Nat) : Nat := if q t = true ∧ x &&& pairB t ≠ 0 then x ||| pairB t else x
/-- With those that the first k ties add, one after another. -/
def addK (q : S39 → Bool) (l : List S39) (x : Nat) : Nat → Nat
  | 0 => x
  | k + 1 => addT q (l.getD k z39) (addK q l x k)
def spread (q : S39 → Bool) (l : List S39) (x : Nat) : Nat → Nat
  | 0 => x
  | k + 1 => addK q l (spread q l x k) l.length
/-- The groups of those that are left. -/
def groupsL (q : S39 → Bool) (n : Nat) (l : List S39) : Nat → Nat → List Int
  | 0, _ => []
  | f + 1, left => if left = 0 then [] else ((spread q l (lowB left) n : Nat) : Int) :: groupsL q n l f (less left (spread q l (lowB left) n))
def groupsF (q : S39 → Bool) (n : Nat) (l : List S39) : List Int := groupsL q n l (2 ^ n) (2 ^ n - 1)

theorem addT_sup {q : S39 → Bool} {t : S39} {x i : Nat} (h : x.testBit i = true) : (addT q t x).testBit i = true := by
  unfold addT
  split
  · rw [Nat.testBit_or, h]; rfl
  · exact h
theorem addK_sup {q : S39 → Bool} {l : List S39} {x i : Nat} (h : x.testBit i = true) : ∀ k, (addK q l x k).testBit i = true
  | 0 => h
  | k + 1 => addT_sup (addK_sup h k)
theorem spread_sup {q : S39 → Bool} {l : List S39} {x i : Nat} (h : x.testBit i = true) : ∀ k, (spread q l x k).testBit i = true
  | 0 => h
  | k + 1 => addK_sup (spread_sup h k) _
/-- Ties of m drovers. -/
def okN (m : Nat) (l : List S39) : Prop := ∀ t ∈ l, 0 ≤ t.f0 ∧ t.f0 < m ∧ 0 ≤ t.f1 ∧ t.f1 < m
theorem pairB_lt {m : Nat} {t : S39} (h : 0 ≤ t.f0 ∧ t.f0 < m ∧ 0 ≤ t.f1 ∧ t.f1 < m) : pairB t < 2 ^ m :=
  or_lt (Nat.pow_lt_pow_right (by decide) (by omega)) (Nat.pow_lt_pow_right (by decide) (by omega))
theorem addK_lt {q : S39 → Bool} {l : List S39} {x m : Nat} (hl : okN m l) (hx : x < 2 ^ m) : ∀ k, k ≤ l.length → addK q l x k < 2 ^ m
  | 0, _ => hx
  | k + 1, hk => by
    unfold addK addT
    split
    · exact or_lt (addK_lt hl hx k (by omega)) (pairB_lt (hl _ (getD_mem z39 (by omega))))
    · exact addK_lt hl hx k (by omega)
theorem spread_lt {q : S39 → Bool} {l : List S39} {x m : Nat} (hl : okN m l) (hx : x < 2 ^ m) : ∀ k, spread q l x k < 2 ^ m
  | 0 => hx
  | k + 1 => addK_lt hl (spread_lt hl hx k) _ (Nat.le_refl _)
theorem lowB_lt {x m : Nat} (h : x < 2 ^ m) : lowB x < 2 ^ m := less_lt h
theorem low_bit_table : (List.range 256).all (fun x => x == 0 || (List.range 8).any fun i => x.testBit i && (lowB x).testBit i) = true := by decide +kernel
theorem low_bit {x : Nat} (h : x < 256) (h0 : x ≠ 0) : ∃ i, x.testBit i = true ∧ (lowB x).testBit i = true := by
  have := List.all_eq_true.1 low_bit_table x (List.mem_range.2 h)
  rw [Bool.or_eq_true, beq_iff_eq] at this
  rcases this with h1 | h1
  · exact absurd h1 h0
  · obtain ⟨i, _, hi⟩ := List.any_eq_true.1 h1
    rw [Bool.and_eq_true] at hi
    exact ⟨i, hi.1, hi.2⟩
theorem less_le (a b : Nat) : less a b ≤ a := by
  have : a &&& less a b = less a b := by
    apply Nat.eq_of_testBit_eq
    intro i
    rw [Nat.testBit_and, tb_less]
    cases a.testBit i <;> simp
  rw [← this]
  exact Nat.and_le_left
theorem less_dec {a b i : Nat} (ha : a.testBit i = true) (hb : b.testBit i = true) : less a b < a := by
  have h1 := less_le a b
  rcases Nat.lt_or_eq_of_le h1 with h | h
  · exact h
  · have := tb_less a b i
    rw [h, ha, hb] at this
    cases this
end Go.Proofs.Ytaegldcifhgnmaa.A

/- The groups of drovers: the walk. -/
namespace Go.Proofs.Ytaegldcifhgnmaa.A
open Go.RowKit Go.Proofs.YtaegldcifhgnmaaW.PrintWords Go.Proofs.YtaegldcifhgnmaaW.PrintMore

/-- A function value that says of a tie whether something is true of it. -/
structure SaysT (gq : Nat) (q : S39 → Bool) : Prop where
  enters : ∀ args w, (callFunc gq args).run Try.prog w = .ok (.enter gq args) w
  call : ∀ (t : S39) (W : World), Calls Try.prog gq #[.agg #[.int .i64 t.f0, .int .i64 t.f1, .bool t.f2]] W fun e w' => e = .returned (.bool (q t)) ∧ Below W.heap.size W w'

/-- What is held. -/
structure Held (w : World) (n : Nat) (A : Option Addr) (c : Nat) (l : List S39) (v : Value) (out : List Int) (W : World) : Prop where
  net : W.heap[w.heap.size]? = some (.cells #[.int .i64 n, .slice A l.length c] 59 (0, 0))
  below : Below w.heap.size w W
  row : Kd.R (Kd.int .i64) 3 W (w.heap.size + 1) (fun _ => True) v out
theorem held_next {w W W' : World} {n : Nat} {A : Option Addr} {c : Nat} {l : List S39} {v : Value} {out : List Int} (h : Held w n A c l v out W) (hb : Below W.heap.size W W') : Held w n A c l v out W' :=
  ⟨(hb.block _ (blk_lt h.net)).trans h.net, below_then h.below h.below.size hb, Kd.R_below h.row hb⟩

set_option maxRecDepth 100000 in
set_option maxHeartbeats 3200000 in
theorem groups_calls (gq : Nat) (q : S39 → Bool) (hsay : SaysT gq q) (n : Nat) (hn : n ≤ 8) (A : Option Addr) (c : Nat) (l : List S39) (hok : okN n l) (hl : l.length ≤ 1000) (w : World) (hr : Kd.C k39 w A l.length l) :
    Calls Try.prog 52 #[.agg #[.int .i64 n, .slice A l.length c], .func (.func gq) #[] #[]] w fun e w' => ∃ v, e = .returned v ∧ Kd.R (Kd.int .i64) 3 w' w.heap.size (fun _ => True) v (sortI (groupsF q n l)) ∧ Below w.heap.size w w' := by
  have HS := Aside0.mk hsay
  have HR := Aside0.mk hr
  have HO := Aside0.mk hok
  have eg := hsay.enters
  have hg0 := heap_alloc_new w (.cells #[.int .i64 n, .slice A l.length c] 59)
  have hb0 : Below w.heap.size w (w.alloc (.cells #[.int .i64 n, .slice A l.length c] 59)) := below_alloc (Below.refl _ _) _
  have H0 := Aside0.mk (And.intro hg0 hb0)
  obtain ⟨F, hF⟩ : ∃ F, groupsF q n l = F := ⟨_, rfl⟩
  have HF := Aside0.mk hF
  have hp8 := pow8 hn
  have hw : wrap64 (2 ^ n) = ((2 ^ n : Nat) : Int) := by rw [wrap64_two (by omega), pow_cast]
  obtain ⟨N, hN⟩ : ∃ N, 2 ^ n = N := ⟨_, rfl⟩
  have hN1 : 1 ≤ N := by rw [← hN]; exact Nat.two_pow_pos n
  rw [hF]
  rw [hN] at hw hp8
  have HN := Aside0.mk hN
  clear hsay hr hok hg0 hb0 hF hN
  go_enter Try.func52, Try.ntmps52
  go_wp2
  rw [hw]
  clear hw
  have hstart : Aside0 (Held w n A c l (.slice none 0 0) [] (w.alloc (.cells #[.int .i64 n, .slice A l.length c] 59))) := ⟨⟨H0.out.1, H0.out.2, Kd.R_nil _ _ _ _ _⟩⟩
  go_loopg [5, 6, 7, 9, 10] N (fun gg v5 v6 _ _ _ wr => ∃ (f left : Nat) (out : List Int), v6 = .int .i64 left ∧ left < N ∧ f ≤ gg ∧ left ≤ f ∧ out.length + f ≤ 256 ∧ Aside0 (Held w n A c l v5 out wr) ∧ Aside0 (out ++ groupsL q n l f left = F))
  case atStart => exact ⟨N, N - 1, [], by go_num, by omega, by omega, by omega, by simpa using hp8, hstart, ⟨by rw [← HF.out, groupsF, HN.out]; rfl⟩⟩
  case round =>
    clear hstart
    obtain ⟨f, left, out, rfl, hlN, hfg, hlf, hof, HW, HE⟩ := hrel
    obtain ⟨n0, n1, _, _⟩ := cells2 HW.out.net
    by_cases h0 : 0 < left
    · have hz : (0 : Int) < (left : Int) := by omega
      obtain ⟨f, rfl⟩ : ∃ f', f = f' + 1 := ⟨f - 1, by omega⟩
      have hlow := low_ask (x := left) (by omega)
      have hlb : Aside0 (lowB left < 2 ^ n) := ⟨lowB_lt (by rw [HN.out]; exact hlN)⟩
      obtain ⟨x0, hx0⟩ : ∃ x0, lowB left = x0 := ⟨_, rfl⟩
      rw [hx0] at hlow hlb
      have HX0 := Aside0.mk hx0
      clear hx0
      go_wp2
      obtain ⟨wo, rfl⟩ : ∃ wo : World, wo = wr := ⟨_, rfl⟩
      clear n0 n1 hlow
      go_loopg [7, 9, 10, 23] n (fun g2 v7 _ _ v23 wr => ∃ r : Nat, r ≤ n ∧ n - r ≤ g2 ∧ v23 = .int .i64 r ∧ v7 = .int .i64 (spread q l x0 r) ∧ Aside0 (Held w n A c l u5 out wr))
      case atStart => exact ⟨0, Nat.zero_le _, by omega, rfl, rfl, HW⟩
      case round =>
        clear HW
        obtain ⟨r, hrn, hg2, rfl, rfl, HW⟩ := hrel
        obtain ⟨n0, n1, _, _⟩ := cells2 HW.out.net
        by_cases hrlt : r < n
        · have hrz : (r : Int) < (n : Int) := by omega
          go_wp2
          obtain ⟨wo2, rfl⟩ : ∃ wo : World, wo = wr := ⟨_, rfl⟩
          clear n0 n1
          obtain ⟨y, hy⟩ : ∃ y, spread q l x0 r = y := ⟨_, rfl⟩
          have HYY := Aside0.mk hy
          have hyl : Aside0 (y < 2 ^ n) := ⟨by rw [← hy]; exact spread_lt HO.out hlb.out r⟩
          rw [hy]
          clear hy
          go_loopg [7, 9, 10, 28] l.length (fun g3 v7 _ _ v28 wr => ∃ k : Nat, k ≤ l.length ∧ l.length - k ≤ g3 ∧ v28 = .int .i64 k ∧ v7 = .int .i64 (addK q l y k) ∧ Aside0 (Held w n A c l u5 out wr))
          case atStart => exact ⟨0, Nat.zero_le _, by omega, rfl, rfl, HW⟩
          case round =>
            clear HW
            obtain ⟨k, hkl, hg3, rfl, rfl, HW⟩ := hrel
            by_cases hklt : k < l.length
            · have hkz : (k : Int) < (l.length : Int) := by omega
              obtain ⟨ad, rfl, hx0, hx1, hx2⟩ := at_T39 (Kd.C_below HR.out HW.out.below) (k : Int) (by omega) (by omega)
              rw [Int.toNat_natCast] at hx0 hx1 hx2
              have hrd : rd_T39 l (k : Int) = l.getD k z39 := by simp [rd_T39]
              rw [hrd] at hx0 hx1 hx2
              have hts := HO.out _ (getD_mem z39 hklt)
              have hsuc : addK q l y (k + 1) = addT q (l.getD k z39) (addK q l y k) := rfl
              have hxl := addK_lt (q := q) HO.out hyl.out k (by omega)
              generalize hy : l.getD k z39 = t at hx0 hx1 hx2 hts hsuc
              obtain ⟨a, b, f⟩ := t
              dsimp only at hx0 hx1 hx2 hts
              obtain ⟨h1, h2, h3, h4⟩ := hts
              obtain ⟨a, rfl⟩ := Int.eq_ofNat_of_zero_le h1
              obtain ⟨b, rfl⟩ := Int.eq_ofNat_of_zero_le h3
              have hPl : pairB ⟨a, b, f⟩ < 2 ^ n := pairB_lt ⟨h1, h2, h3, h4⟩
              obtain ⟨P, hP⟩ : ∃ P, pairB ⟨a, b, f⟩ = P := ⟨_, rfl⟩
              have hP2 : 2 ^ a ||| 2 ^ b = P := hP
              rw [hP] at hPl
              have HSU : Aside0 (addK q l y (k + 1) = if q ⟨a, b, f⟩ = true ∧ addK q l y k &&& P ≠ 0 then addK q l y k ||| P else addK q l y k) := ⟨by rw [hsuc, addT, hP]⟩
              obtain ⟨x, hx⟩ : ∃ x, addK q l y k = x := ⟨_, rfl⟩
              rw [hx] at hxl HSU ⊢
              have hor0 : bits .or .i64 (2 ^ a) (2 ^ b) = (P : Int) := by rw [pow_cast, pow_cast, or64 (2 ^ a) (2 ^ b) (two_lt (by omega)) (two_lt (by omega)), hP2]
              have hpa : IntKind.i64.wrap ((2 : Int) ^ a) = 2 ^ a := by rw [pow_cast]; exact wrap64_nat _ (Int.natCast_nonneg _) (by exact_mod_cast two_lt (show a < 62 by omega))
              have hpb : IntKind.i64.wrap ((2 : Int) ^ b) = 2 ^ b := by rw [pow_cast]; exact wrap64_nat _ (Int.natCast_nonneg _) (by exact_mod_cast two_lt (show b < 62 by omega))
              have hand : bits .and .i64 (x : Int) (P : Int) = ((x &&& P : Nat) : Int) := and64 x P (lt62 hxl (by omega)) (lt62 hPl (by omega))
              have horx : bits .or .i64 (x : Int) (P : Int) = ((x ||| P : Nat) : Int) := or64 x P (lt62 hxl (by omega)) (lt62 hPl (by omega))
              have HORX := Aside0.mk horx
              have HAND := Aside0.mk hand
              clear hrd hsuc hy hP hP2 hx hxl hPl horx hand h1 h3
              cases hqq : q ⟨a, b, f⟩ with
              | false =>
                have HQ := Aside0.mk hqq
                have HX : Aside0 (x = addK q l y (k + 1)) := ⟨by rw [HSU.out, if_neg (fun h => by rw [hqq] at h; cases h.1)]⟩
                clear hqq
                go_wp2
                go_quiet (fail)
                clear hor0 hpa hpb
                have HW2 := Aside0.mk (held_next HW.out (pw_below_drewN (below_alloc (Below.refl wr.heap.size wr) (.cells #[.int .i64 (a : Int), .int .i64 (b : Int), .bool f] 39)) nq))
                go_wp2_with (go_at_fn gq; go_must (refine (HS.out.call ⟨a, b, f⟩ _).mono ?_; rw [HQ.out]; rintro e w3 ⟨rfl, hb3⟩; have HW3 := Aside0.mk (held_next HW2.out hb3); clear hb3))
                go_roundg (l.length - (k + 1))
                case measure => omega
                case rel => exact ⟨k + 1, by omega, by omega, by go_num, by rw [← HX.out], HW3⟩
              | true =>
                have HQ := Aside0.mk hqq
                by_cases hz : x &&& P = 0
                · have hzz : (bits .and .i64 (x : Int) (P : Int) != 0) = false := by rw [HAND.out, hz]; rfl
                  have HX : Aside0 (x = addK q l y (k + 1)) := ⟨by rw [HSU.out, if_neg (fun h => h.2 hz)]⟩
                  clear hqq hz
                  go_wp2
                  go_quiet (fail)
                  clear hor0 hpa hpb
                  have HW2 := Aside0.mk (held_next HW.out (pw_below_drewN (below_alloc (Below.refl wr.heap.size wr) (.cells #[.int .i64 (a : Int), .int .i64 (b : Int), .bool f] 39)) nq))
                  go_wp2_with (go_at_fn gq; go_must (refine (HS.out.call ⟨a, b, f⟩ _).mono ?_; rw [HQ.out]; rintro e w3 ⟨rfl, hb3⟩; have HW3 := Aside0.mk (held_next HW2.out hb3); clear hb3))
                  go_roundg (l.length - (k + 1))
                  case measure => omega
                  case rel => exact ⟨k + 1, by omega, by omega, by go_num, by rw [← HX.out], HW3⟩
                · have hzz : (bits .and .i64 (x : Int) (P : Int) != 0) = true := by rw [HAND.out, bne_iff_ne]; omega
                  have HX : Aside0 (addK q l y (k + 1) = x ||| P) := ⟨by rw [HSU.out, if_pos ⟨hqq, hz⟩]⟩
                  have horx := HORX.out
                  clear hqq hz
                  go_wp2
                  go_quiet (fail)
                  clear hor0 hpa hpb
                  have HW2 := Aside0.mk (held_next HW.out (pw_below_drewN (below_alloc (Below.refl wr.heap.size wr) (.cells #[.int .i64 (a : Int), .int .i64 (b : Int), .bool f] 39)) nq))
                  go_wp2_with (go_at_fn gq; go_must (refine (HS.out.call ⟨a, b, f⟩ _).mono ?_; rw [HQ.out]; rintro e w3 ⟨rfl, hb3⟩; have HW3 := Aside0.mk (held_next HW2.out hb3); clear hb3))
                  go_roundg (l.length - (k + 1))
                  case measure => omega
                  case rel => exact ⟨k + 1, by omega, by omega, by go_num, by rw [HX.out], HW3⟩
            · have hkz : ¬ (k : Int) < (l.length : Int) := by omega
              have hke : k = l.length := by omega
              have HK : Aside0 (addK q l y k = spread q l x0 (r + 1)) := ⟨by rw [hke, ← HYY.out]; rfl⟩
              rw [HK.out]
              clear hke
              go_wp2
              go_roundg (n - (r + 1))
              case measure => omega
              case rel => exact ⟨r + 1, by omega, by omega, by go_num, rfl, HW⟩
        · have hrz : ¬ (r : Int) < (n : Int) := by omega
          have hre : r = n := by omega
          obtain ⟨A1, c1, hv1, hc1, _⟩ := Kd.R_reads HW.out.row
          subst hv1
          clear hc1
          obtain ⟨x, hx⟩ : ∃ x, spread q l x0 r = x := ⟨_, rfl⟩
          have hxl : x < 2 ^ n := by rw [← hx]; exact spread_lt HO.out hlb.out r
          have hsub : less left x < left := by
            obtain ⟨i, hi1, hi2⟩ := low_bit (x := left) (by omega) (by omega)
            rw [HX0.out] at hi2
            exact less_dec hi1 (by rw [← hx]; exact spread_sup hi2 r)
          have hnot : bits .andNot .i64 (left : Int) (x : Int) = ((less left x : Nat) : Int) := andNot64 left x (by omega) (lt62 hxl (by omega))
          have HG : Aside0 (groupsL q n l (f + 1) left = (x : Int) :: groupsL q n l f (less left x)) := ⟨by rw [groupsL, if_neg (by omega), HX0.out]; rw [hre] at hx; rw [hx]⟩
          rw [hx]
          have hre' : (r : Int) = n := by omega
          clear hx hre hxl
          go_wp2_with (at_builtin; go_must (refine Kd.R_append (Kd.int .i64) (w0 := wr) (w.heap.size + 1) rfl (.tmp 53) (.tmp 55) 28 3 (.int .i64 0) 8 rfl Try.underlying28 info3 rfl (by decide) (by omega) (.slice A1 out.length c1) out (x : Int) [.int .i64 (x : Int)] (fun _ => True) (fun _ => False) rfl rfl rfl (fun _ hk => hk.elim) (fun _ _ => trivial) HW.out.row (Below.refl _ _) (by have := blk_lt HW.out.net; omega) (by omega) ?_; intro v4 w4 ho hbb hg4 hat; have HW4 : Aside0 (Held w n A c l v4 (out ++ [(x : Int)]) w4) := ⟨⟨(hg4.block _ (blk_lt HW.out.net) (fun e => by have := Kd.R_base HW.out.row _ e.symm; omega)).trans HW.out.net, HW.out.below.grown hg4 HW.out.below.size (fun k hk => by have := Kd.R_base HW.out.row k hk; omega), ho⟩⟩; clear ho hbb hg4 hat))
          go_roundg f
          case measure => omega
          case rel => exact ⟨f, less left x, out ++ [(x : Int)], rfl, by omega, Nat.le_refl _, by omega, by rw [List.length_append, List.length_singleton]; omega, HW4, ⟨by rw [← HE.out, HG.out, List.append_assoc]; rfl⟩⟩
    · have hz : ¬ (0 : Int) < (left : Int) := by omega
      have hl0 : left = 0 := by omega
      have HFF : Aside0 (out = F) := ⟨by rw [← HE.out, hl0]; cases f <;> simp [groupsL]⟩
      have hlen : out.length ≤ 1000 := by omega
      clear hl0
      go_wp2_with (go_at_call 78; go_must (refine (sort_any HW.out.row hlen).mono ?_; rintro e w2 ⟨rfl, hr2, hg2⟩; have HR2 := Aside0.mk hr2; have HB2 := Aside0.mk (HW.out.below.grown hg2 HW.out.below.size (fun k hk => by have := Kd.R_base HW.out.row k hk; omega)); clear hr2 hg2))
      go_ret
      exact ⟨_, rfl, by rw [← HFF.out]; exact Kd.R_lower HR2.out (by omega), HB2.out⟩
end Go.Proofs.Ytaegldcifhgnmaa.A

/- Classes and Clans: what they return. -/
namespace Go.Proofs.Ytaegldcifhgnmaa.A
open Go.RowKit Go.Proofs.YtaegldcifhgnmaaW.PrintWords Go.Proofs.YtaegldcifhgnmaaW.PrintMore

def friendB (t : S39) : Bool := !t.f2
def anyT (_ : S39) : Bool := true
theorem enters53 : ∀ args w, (callFunc 53 args).run Try.prog w = .ok (.enter 53 args) w := enters_of Try.func53 (by kernel_rfl) rfl
theorem enters60 : ∀ args w, (callFunc 60 args).run Try.prog w = .ok (.enter 60 args) w := enters_of Try.func60 (by kernel_rfl) rfl
theorem enters55 : ∀ args w, (callFunc 55 args).run Try.prog w = .ok (.enter 55 args) w := enters_of Try.func55 (by kernel_rfl) rfl
set_option maxRecDepth 100000 in
set_option maxHeartbeats 400000 in
theorem friend_calls (t : S39) (W : World) : Calls Try.prog 53 #[.agg #[.int .i64 t.f0, .int .i64 t.f1, .bool t.f2]] W fun e w' => e = .returned (.bool (friendB t)) ∧ Below W.heap.size W w' := by
  have HB := Aside0.mk (below_alloc (Below.refl W.heap.size W) (.cells #[.int .i64 t.f0, .int .i64 t.f1, .bool t.f2] 39))
  unfold friendB
  go_enter Try.func53, Try.ntmps53
  go_wp2
  go_ret
  exact ⟨rfl, HB.out⟩
theorem says_friend : SaysT 53 friendB := ⟨enters53, friend_calls⟩
set_option maxRecDepth 100000 in
set_option maxHeartbeats 400000 in
theorem any_calls (t : S39) (W : World) : Calls Try.prog 60 #[.agg #[.int .i64 t.f0, .int .i64 t.f1, .bool t.f2]] W fun e w' => e = .returned (.bool (anyT t)) ∧ Below W.heap.size W w' := by
  have HB := Aside0.mk (below_alloc (Below.refl W.heap.size W) (.cells #[.int .i64 t.f0, .int .i64 t.f1, .bool t.f2] 39))
  unfold anyT
  go_enter Try.func60, Try.ntmps60
  go_wp2
  go_ret
  exact ⟨rfl, HB.out⟩
theorem says_any : SaysT 60 anyT := ⟨enters60, any_calls⟩

theorem tiesE_ok {m : Nat} {l : List S39} (h : tiesE m l = 0) : okN m l := by
  obtain ⟨hn, hl, ho⟩ := tiesE_parts h
  intro t ht
  obtain ⟨i, hi, rfl⟩ := List.mem_iff_getElem.1 ht
  have := okT_parts (okTies_parts ho hi).1
  rw [List.getD_eq_getElem?_getD, List.getElem?_eq_getElem hi] at this
  simp only [Option.getD_some] at this
  omega

/-! ### Classes -/
def classK (n : Nat) (l : List S39) : Int := (l.length : Int) - n + (groupsF anyT n l).length
def feuds_Classes.f (a0 : Int) (l1 : List S39) : Option (Int × Int) :=
  if tiesE a0 l1 = 0 then (if 0 ≤ classK a0.toNat l1 ∧ classK a0.toNat l1 ≤ 60 then some (((2 ^ (classK a0.toNat l1).toNat : Nat) : Int), 0) else none) else some (0, tiesE a0 l1)

set_option maxRecDepth 100000 in
set_option maxHeartbeats 800000 in
theorem Classes_err (n : Int) (A : Option Addr) (c : Nat) (l : List S39) (w : World) (hr : Kd.C k39 w A l.length l) (E : Int) (h : tiesE n l = E) (h0 : E ≠ 0) :
    Calls Try.prog 32 #[.int .i64 n, .slice A l.length c] w fun e w' => e = .returned (.tuple #[.int .i64 0, .int .i64 E]) ∧ Below w.heap.size w w' := by
  have HR := Aside0.mk hr
  have HE := Aside0.mk h
  have hg := errne h0
  have H0 := Aside0.mk h0
  clear hr h h0
  go_enter Try.func32, Try.ntmps32
  go_wp2_with (go_at_call 46; refine (read_err HR.out HE.out H0.out).mono ?_; rintro e w' ⟨rfl, hb'⟩; have HB := Aside0.mk hb'; clear hb')
  go_ret2
  exact ⟨rfl, below_alloc HB.out _⟩

set_option maxRecDepth 100000 in
set_option maxHeartbeats 800000 in
theorem Classes_good (m : Nat) (A : Option Addr) (c : Nat) (l : List S39) (w : World) (hr : Kd.C k39 w A l.length l) (h : tiesE m l = 0) (k : Nat) (hk : classK m l = k) (hk60 : k ≤ 60) :
    Calls Try.prog 32 #[.int .i64 m, .slice A l.length c] w fun e w' => e = .returned (.tuple #[.int .i64 ((2 ^ k : Nat) : Int), .int .i64 0]) ∧ Below w.heap.size w w' := by
  have hm : m ≤ 8 := by have := (tiesE_parts h).1; omega
  have hl20 : l.length ≤ 20 := (tiesE_parts h).2.1
  have HR := Aside0.mk hr
  have HS := Aside0.mk (tiesE_ok h)
  have HE := Aside0.mk h
  obtain ⟨G, hG⟩ : ∃ G, (sortI (groupsF anyT m l)).length = G := ⟨_, rfl⟩
  have hkk : (l.length : Int) - m + G = k := by rw [← hG, sortI_len]; exact hk
  have HG := Aside0.mk hG
  have hp : wrap64 (2 ^ k) = ((2 ^ k : Nat) : Int) := by rw [wrap64_two (by omega), pow_cast]
  obtain ⟨P, hP⟩ : ∃ P, 2 ^ k = P := ⟨_, rfl⟩
  rw [hP] at hp ⊢
  clear hr h hk hG hP
  go_enter Try.func32, Try.ntmps32
  go_wp2_with (first
    | (go_at_call 46; refine (read_good HR.out HE.out).mono ?_; rintro e w1 ⟨rfl, hb1⟩; have HB1 := Aside0.mk (below_alloc hb1 (.cells #[.int .i64 (m : Int), .slice A l.length c] 59)); clear hb1)
    | (go_at_call 52; go_must (refine (groups_calls 60 anyT says_any m hm A c l HS.out (by omega) _ (Kd.C_below HR.out HB1.out)).mono ?_; rintro e w2 ⟨v2, rfl, hr2, hb2⟩; have HB2 := Aside0.mk (below_then HB1.out HB1.out.size hb2); obtain ⟨A2, c2, hv2, hc2, _⟩ := Kd.R_reads hr2; rw [HG.out] at hv2; subst hv2; clear hr2 hb2 hc2)))
  go_ret2
  rw [hp]
  exact ⟨rfl, HB2.out⟩
theorem feuds_Classes.calls (a0 : Int) (A1 : Option Addr) (c1 : Nat) (l1 : List S39) (r1 : Int) (r2 : Int) (w : World) (hr1 : Kd.C k39 w A1 l1.length l1) (_hc1 : l1.length ≤ c1) (h : feuds_Classes.f a0 l1 = some (r1, r2)) :
    Calls Try.prog 32 #[.int .i64 a0, .slice A1 l1.length c1] w fun e w' => e = .returned (.tuple #[.int .i64 r1, .int .i64 r2]) ∧ Below w.heap.size w w' := by
  unfold feuds_Classes.f at h
  by_cases h0 : tiesE a0 l1 = 0
  · rw [if_pos h0] at h
    have h1 := tiesE_parts h0
    obtain ⟨m, rfl⟩ : ∃ m : Nat, a0 = m := ⟨a0.toNat, by omega⟩
    rw [Int.toNat_natCast] at h
    by_cases hk : 0 ≤ classK m l1 ∧ classK m l1 ≤ 60
    · rw [if_pos hk] at h
      cases h
      exact Classes_good m A1 c1 l1 w hr1 h0 (classK m l1).toNat (by omega) (by omega)
    · rw [if_neg hk] at h; cases h
  · rw [if_neg h0] at h
    cases h
    exact Classes_err a0 A1 c1 l1 w hr1 _ rfl h0

/-! ### Clans -/
def bothB (t : S39) (x : Int) : Bool := x.toNat.testBit t.f0.toNat && x.toNat.testBit t.f1.toNat
def clashB (l : List S39) (G : List Int) (k : Nat) : Bool := (List.range k).any fun i => (l.getD i z39).f2 && G.any (bothB (l.getD i z39))
def clansF (n : Int) (l : List S39) : List Int × Int :=
  if tiesE n l = 0 then (if clashB l (sortI (groupsF friendB n.toNat l)) l.length = true then ([], 10) else (sortI (groupsF friendB n.toNat l), 0)) else ([], tiesE n l)
theorem clashB_succ (l : List S39) (G : List Int) (k : Nat) : clashB l G (k + 1) = (clashB l G k || ((l.getD k z39).f2 && G.any (bothB (l.getD k z39)))) := by
  unfold clashB
  rw [List.range_succ, List.any_append, List.any_cons, List.any_nil, Bool.or_false]

set_option maxRecDepth 100000 in
set_option maxHeartbeats 800000 in
theorem both_pred (a b : Nat) (f : Bool) (ha : a < 60) (hb : b < 60) (G : List Int) (hG : ∀ x ∈ G, 0 ≤ x ∧ x < 4611686018427387904) (g : Nat) (w : World) (hc : w.heap[g]? = some (.cells #[.int .i64 a, .int .i64 b, .bool f] 39 (0, 0))) :
    PredB 55 #[.pointer (some ⟨g, 0, none⟩)] (fun x => .int .i64 x) (bothB ⟨a, b, f⟩) G w := by
  intro W x hx hbl
  obtain ⟨h0, h1⟩ := hG x hx
  obtain ⟨y, rfl⟩ := Int.eq_ofNat_of_zero_le h0
  obtain ⟨c0, c1, _, _, _, _⟩ := cells3 ((hbl.block _ (blk_lt hc)).trans hc)
  have HB := Aside0.mk hbl
  have ea := bit_ask (y := y) (k := a) (by omega) (by omega)
  have eb := bit_ask (y := y) (k := b) (by omega) (by omega)
  have hv : bothB ⟨a, b, f⟩ (y : Int) = (y.testBit a && y.testBit b) := by unfold bothB; dsimp only; rw [Int.toNat_natCast, Int.toNat_natCast, Int.toNat_natCast]
  rw [hv]
  show Calls Try.prog 55 #[.int .i64 y, .pointer (some ⟨g, 0, none⟩)] W fun e w' => e = .returned (.bool (y.testBit a && y.testBit b)) ∧ Below w.heap.size w w'
  clear hbl hc hx hG hv
  cases h1 : y.testBit a with
  | false =>
    rw [h1] at ea
    go_enter Try.func55, Try.ntmps55
    go_wp2
    go_ret
    exact ⟨rfl, HB.out⟩
  | true =>
    rw [h1] at ea
    go_enter Try.func55, Try.ntmps55
    go_wp2
    go_ret
    exact ⟨rfl, HB.out⟩
end Go.Proofs.Ytaegldcifhgnmaa.A

/- Clans: its walk. -/
namespace Go.Proofs.Ytaegldcifhgnmaa.A
open Go.RowKit Go.Proofs.YtaegldcifhgnmaaW.PrintWords Go.Proofs.YtaegldcifhgnmaaW.PrintMore

theorem groupsL_mem {q : S39 → Bool} {n : Nat} {l : List S39} (hl : okN n l) : ∀ (f left : Nat), left < 2 ^ n → ∀ x ∈ groupsL q n l f left, ∃ y : Nat, x = y ∧ y < 2 ^ n
  | 0, _, _, x, hx => by cases hx
  | f + 1, left, h, x, hx => by
    rw [groupsL] at hx
    by_cases h0 : left = 0
    · rw [if_pos h0] at hx; cases hx
    · rw [if_neg h0] at hx
      rcases List.mem_cons.1 hx with rfl | hx
      · exact ⟨_, rfl, spread_lt hl (lowB_lt h) n⟩
      · exact groupsL_mem hl f _ (less_lt h) x hx
theorem groupsF_mem {q : S39 → Bool} {n : Nat} {l : List S39} (hl : okN n l) {x : Int} (hx : x ∈ groupsF q n l) : ∃ y : Nat, x = y ∧ y < 2 ^ n :=
  groupsL_mem hl _ _ (by have := Nat.two_pow_pos n; omega) x hx
theorem sortI_mem {l : List Int} {x : Int} : x ∈ sortI l ↔ x ∈ l := List.mem_mergeSort

set_option maxRecDepth 100000 in
set_option maxHeartbeats 800000 in
theorem Clans_err (n : Int) (A : Option Addr) (c : Nat) (l : List S39) (w : World) (hr : Kd.C k39 w A l.length l) (E : Int) (h : tiesE n l = E) (h0 : E ≠ 0) :
    Calls Try.prog 26 #[.int .i64 n, .slice A l.length c] w (FoundPost ([], E) w) := by
  have HR := Aside0.mk hr
  have HE := Aside0.mk h
  have hg := errne h0
  have H0 := Aside0.mk h0
  clear hr h h0
  go_enter Try.func26, Try.ntmps26
  go_wp2_with (go_at_call 46; refine (read_err HR.out HE.out H0.out).mono ?_; rintro e w' ⟨rfl, hb'⟩; have HB := Aside0.mk hb'; clear hb')
  go_ret2
  exact ⟨_, rfl, Kd.R_nil _ _ _ _ _, below_alloc HB.out _⟩

set_option maxRecDepth 100000 in
set_option maxHeartbeats 1600000 in
theorem Clans_good (m : Nat) (A : Option Addr) (c : Nat) (l : List S39) (w : World) (hr : Kd.C k39 w A l.length l) (h : tiesE m l = 0) (G : List Int) (hG : sortI (groupsF friendB m l) = G) (Z : List Int × Int) (hZ : (if clashB l G l.length = true then ([], 10) else (G, 0)) = Z) :
    Calls Try.prog 26 #[.int .i64 m, .slice A l.length c] w (FoundPost Z w) := by
  have HZ := Aside0.mk hZ
  clear hZ
  have hm : m ≤ 8 := by have := (tiesE_parts h).1; omega
  have hl20 : l.length ≤ 20 := (tiesE_parts h).2.1
  have HR := Aside0.mk hr
  have HS := Aside0.mk (tiesE_ok h)
  have HSM := Aside0.mk (tiesE_small h)
  have HE := Aside0.mk h
  have HG := Aside0.mk hG
  have HM : Aside0 (∀ x ∈ G, 0 ≤ x ∧ x < 4611686018427387904) := ⟨fun x hx => by
    rw [← hG, sortI_mem] at hx
    obtain ⟨y, rfl, hy⟩ := groupsF_mem (tiesE_ok h) hx
    have := pow8 hm
    omega⟩
  clear hr h hG
  go_enter Try.func26, Try.ntmps26
  go_wp2_with (first
    | (go_at_call 46; refine (read_good HR.out HE.out).mono ?_; rintro e w1 ⟨rfl, hb1⟩; have HB1 := Aside0.mk (below_alloc hb1 (.cells #[.int .i64 (m : Int), .slice A l.length c] 59)); clear hb1)
    | (go_at_call 52; go_must (refine (groups_calls 53 friendB says_friend m hm A c l HS.out (by omega) _ (Kd.C_below HR.out HB1.out)).mono ?_; rw [HG.out]; rintro e w2 ⟨v2, rfl, hr2, hb2⟩; obtain ⟨A2, c2, rfl, hc2, _⟩ := Kd.R_reads hr2; have HI0 : Aside0 (Below w.heap.size w w2 ∧ Kd.R (Kd.int .i64) 3 w2 w.heap.size (fun _ => True) (.slice A2 G.length c2) G) := ⟨below_then HB1.out HB1.out.size hb2, Kd.R_lower hr2 HB1.out.size⟩; clear hr2 hb2 hc2)))
  go_loopg [10, 24] l.length (fun gg _ v24 wr => ∃ i : Nat, i ≤ l.length ∧ l.length - i ≤ gg ∧ v24 = .int .i64 i ∧ Aside0 (Below w.heap.size w wr ∧ Kd.R (Kd.int .i64) 3 wr w.heap.size (fun _ => True) (.slice A2 G.length c2) G) ∧ Aside0 (clashB l G i = false))
  case atStart => exact ⟨0, Nat.zero_le _, by omega, rfl, HI0, ⟨rfl⟩⟩
  case round =>
    clear HI0
    obtain ⟨i, hi, hgg, rfl, HI, HC⟩ := hrel
    by_cases hlt : i < l.length
    · have hltz : (i : Int) < (l.length : Int) := by omega
      obtain ⟨ad, rfl, hx0, hx1, hx2⟩ := at_T39 (Kd.C_below HR.out HI.out.1) (i : Int) (by omega) (by omega)
      rw [Int.toNat_natCast] at hx0 hx1 hx2
      have hrd : rd_T39 l (i : Int) = l.getD i z39 := by simp [rd_T39]
      rw [hrd] at hx0 hx1 hx2
      have hts := HSM.out _ (getD_mem z39 hlt)
      have hsu := clashB_succ l G i
      generalize hy : l.getD i z39 = t at hx0 hx1 hx2 hts hsu
      obtain ⟨a, b, f⟩ := t
      dsimp only at hx0 hx1 hx2 hts
      obtain ⟨h1, h2, h3, h4⟩ := hts
      obtain ⟨a, rfl⟩ := Int.eq_ofNat_of_zero_le h1
      obtain ⟨b, rfl⟩ := Int.eq_ofNat_of_zero_le h3
      have HSU := Aside0.mk hsu
      have HY := Aside0.mk hy
      have hb8 : Aside0 (Below wr.heap.size wr (wr.alloc (.cells #[.int .i64 a, .int .i64 b, .bool f] 39))) := ⟨below_alloc (Below.refl _ _) _⟩
      have hc8 : Aside0 ((wr.alloc (.cells #[.int .i64 a, .int .i64 b, .bool f] 39)).heap[wr.heap.size]? = some (.cells #[.int .i64 a, .int .i64 b, .bool f] 39 (0, 0))) := ⟨heap_alloc_new _ _⟩
      clear hrd hy hsu h1 h3
      cases f with
      | false =>
        go_wp2
        go_roundg (l.length - (i + 1))
        case measure => omega
        case rel => exact ⟨i + 1, by omega, by omega, by go_num, ⟨below_then HI.out.1 HI.out.1.size hb8.out, Kd.R_below HI.out.2 hb8.out⟩, ⟨by rw [HSU.out, HC.out]; rfl⟩⟩
      | true =>
        have hrr := Aside0.mk (Kd.R_reads' HI.out.2).2.2
        cases hq : G.any (bothB ⟨a, b, true⟩) with
        | false =>
          have HQ := Aside0.mk hq
          clear hq
          go_wp2_with (go_at_call 54; go_must (refine (ContainsFunc_int 55 #[.pointer (some ⟨wr.heap.size, 0, none⟩)] (bothB ⟨a, b, true⟩) enters55 A2 G.length c2 G _ (Kd.C_below hrr.out hb8.out) (both_pred a b true (by omega) (by omega) G HM.out wr.heap.size _ hc8.out)).mono ?_; rw [HQ.out]; rintro e w3 ⟨rfl, hb3⟩; have HB3 := Aside0.mk (below_then hb8.out hb8.out.size hb3); clear hb3))
          go_roundg (l.length - (i + 1))
          case measure => omega
          case rel => exact ⟨i + 1, by omega, by omega, by go_num, ⟨below_then HI.out.1 HI.out.1.size HB3.out, Kd.R_below HI.out.2 HB3.out⟩, ⟨by rw [HSU.out, HC.out, HQ.out]; rfl⟩⟩
        | true =>
          have HQ := Aside0.mk hq
          have HCL : Aside0 (clashB l G l.length = true) := ⟨by
            unfold clashB
            rw [List.any_eq_true]
            refine ⟨i, List.mem_range.2 hlt, ?_⟩
            rw [HY.out, hq]; rfl⟩
          clear hq
          go_wp2_with (go_at_call 54; go_must (refine (ContainsFunc_int 55 #[.pointer (some ⟨wr.heap.size, 0, none⟩)] (bothB ⟨a, b, true⟩) enters55 A2 G.length c2 G _ (Kd.C_below hrr.out hb8.out) (both_pred a b true (by omega) (by omega) G HM.out wr.heap.size _ hc8.out)).mono ?_; rw [HQ.out]; rintro e w3 ⟨rfl, hb3⟩; have HB3 := Aside0.mk (below_then hb8.out hb8.out.size hb3); clear hb3))
          go_ret2
          rw [← HZ.out, if_pos HCL.out]
          exact ⟨_, rfl, Kd.R_nil _ _ _ _ _, below_then HI.out.1 HI.out.1.size HB3.out⟩
    · have hltz : ¬ (i : Int) < (l.length : Int) := by omega
      have hie : i = l.length := by omega
      have HCL : Aside0 (¬ clashB l G l.length = true) := ⟨by rw [← hie, HC.out]; simp⟩
      clear hie
      go_wp2
      go_ret2
      rw [← HZ.out, if_neg HCL.out]
      exact ⟨_, rfl, HI.out.2, HI.out.1⟩

def feuds_Clans.f (a0 : Int) (l1 : List S39) : Option (List Int × Int) := some (clansF a0 l1)
theorem feuds_Clans.calls (a0 : Int) (A1 : Option Addr) (c1 : Nat) (l1 : List S39) (r1 : List Int) (r2 : Int) (w : World) (hr1 : Kd.C k39 w A1 l1.length l1) (_hc1 : l1.length ≤ c1) (h : feuds_Clans.f a0 l1 = some (r1, r2)) :
    Calls Try.prog 26 #[.int .i64 a0, .slice A1 l1.length c1] w fun e w' => ∃ v0_ : Value, e = .returned (.tuple #[v0_, .int .i64 r2]) ∧ Kd.R (Kd.int .i64) 3 w' w.heap.size (fun _ => True) v0_ r1 ∧ Below w.heap.size w w' := by
  have h := Option.some.inj h
  have : Calls Try.prog 26 #[.int .i64 a0, .slice A1 l1.length c1] w (FoundPost (clansF a0 l1) w) := by
    unfold clansF
    by_cases h0 : tiesE a0 l1 = 0
    · have h1 := tiesE_parts h0
      obtain ⟨m, rfl⟩ : ∃ m : Nat, a0 = m := ⟨a0.toNat, by omega⟩
      rw [if_pos h0, Int.toNat_natCast]
      exact Clans_good m A1 c1 l1 w hr1 h0 _ rfl _ rfl
    · rw [if_neg h0]
      exact Clans_err a0 A1 c1 l1 w hr1 _ rfl h0
  rw [h] at this
  exact this
end Go.Proofs.Ytaegldcifhgnmaa.A

/- A list of ties is a ring: the program's question and the reference's are one (plain). -/
namespace Go.Proofs.Ytaegldcifhgnmaa.A
open Go.RowKit Go.Proofs.YtaegldcifhgnmaaW.PrintWords Go.Proofs.YtaegldcifhgnmaaW.PrintMore

def goodT (l : List S39) : Prop := ∀ t ∈ l, 0 ≤ t.f0 ∧ t.f0 < t.f1 ∧ t.f1 < 60
theorem tiesE_good {n : Int} {l : List S39} (h : tiesE n l = 0) : goodT l := by
  intro t ht
  obtain ⟨i, hi, e⟩ := List.getElem_of_mem ht
  have h1 := tiesE_parts h
  have h2 := okT_parts (okTies_parts h1.2.2 hi).1
  have hg : l.getD i z39 = t := by rw [List.getD_eq_getElem?_getD, List.getElem?_eq_getElem hi, e]; rfl
  rw [hg] at h2
  omega

/-- The tie of an index. -/
def tieA (l : List S39) (i : Int) : S39 := l.getD i.toNat z39
def inR (l : List S39) (i : Int) : Prop := 0 ≤ i ∧ i < (l.length : Int)
instance (l : List S39) (i : Int) : Decidable (inR l i) := inferInstanceAs (Decidable (_ ∧ _))
theorem tieA_good {l : List S39} (hg : goodT l) {i : Int} (h : inR l i) : 0 ≤ (tieA l i).f0 ∧ (tieA l i).f0 < (tieA l i).f1 ∧ (tieA l i).f1 < 60 := hg _ (getD_mem z39 (by unfold inR at h; omega))
/-- The drover that two ties have in common, as the program looks for it. -/
def comB (l : List S39) (i nx : Int) : Option Nat :=
  if inR l i ∧ inR l nx ∧ i ≠ nx then
    (if hasB (tieA l nx) (tieA l i).f0.toNat = true then some (tieA l i).f0.toNat else if hasB (tieA l nx) (tieA l i).f1.toNat = true then some (tieA l i).f1.toNat else none)
  else none
def nextI (r : List Int) (k : Nat) : Int := r.getD ((k + 1) % r.length) 0
def feA (l : List S39) (r : List Int) (k : Nat) : Nat := feT (tieA l (r.getD k 0))
def ringN (l : List S39) (r : List Int) : Nat → Nat → Nat → Nat → Int × Bool
  | 0, _, fe, _ => ((fe : Int), true)
  | d + 1, k, fe, met => match comB l (r.getD k 0) (nextI r k) with
    | none => (0, false)
    | some c => if met.testBit c = true then (0, false) else ringN l r d (k + 1) (fe + feA l r k) (met ||| 2 ^ c)
/-- The program's answer for a list. -/
def ringP (l : List S39) (r : List Int) : Int × Bool := if r.length < 3 then (0, false) else ringN l r r.length 0 0 0
/-- The other drover of a tie. -/
def otherN (t : S39) (v : Nat) : Option Nat := if t.f0 = (v : Int) then some t.f1.toNat else if t.f1 = (v : Int) then some t.f0.toNat else none
def walkN (l : List S39) (r : List Int) (fr : Nat) : Nat → Nat → Nat → Nat → Nat → Int × Bool
  | 0, _, at_, fe, _ => ((fe : Int), decide (at_ = fr))
  | d + 1, k, at_, fe, met => match otherN (tieA l (r.getD k 0)) at_ with
    | none => (0, false)
    | some v => if met.testBit v = true then (0, false) else walkN l r fr d (k + 1) v (fe + feA l r k) (met ||| 2 ^ v)
def walkF (l : List S39) (r : List Int) (fr : Nat) : Int × Bool := walkN l r fr r.length 0 fr 0 0
/-- The reference's answer for a list. -/
def isRingR (l : List S39) (r : List Int) : Int × Bool :=
  if r.length < 3 then (0, false) else if ∀ k, k < r.length → inR l (r.getD k 0) then
    (if (walkF l r (tieA l (r.getD 0 0)).f0.toNat).2 = true then walkF l r (tieA l (r.getD 0 0)).f0.toNat
     else if (walkF l r (tieA l (r.getD 0 0)).f1.toNat).2 = true then walkF l r (tieA l (r.getD 0 0)).f1.toNat else (0, false))
  else (0, false)
def feSum (l : List S39) (r : List Int) : Nat → Nat → Nat
  | 0, _ => 0
  | d + 1, k => feA l r k + feSum l r d (k + 1)

theorem or_bit {met c v : Nat} : (met ||| 2 ^ c).testBit v = (met.testBit v || decide (v = c)) := by
  rw [Nat.testBit_or, tb_two]
  congr 1
theorem ringN_fst (l : List S39) (r : List Int) : ∀ d k fe met, (ringN l r d k fe met).1 = if (ringN l r d k fe met).2 = true then ((fe + feSum l r d k : Nat) : Int) else 0 := by
  intro d
  induction d with
  | zero => intro k fe met; simp [ringN, feSum]
  | succ d ih =>
    intro k fe met
    rw [ringN, feSum]
    cases comB l (r.getD k 0) (nextI r k) with
    | none => simp
    | some c =>
      dsimp only
      by_cases h : met.testBit c = true
      · simp only [if_pos h]; simp
      · simp only [if_neg h]
        rw [ih, Nat.add_assoc]
theorem walkN_fst (l : List S39) (r : List Int) (fr : Nat) : ∀ d k at_ fe met, (walkN l r fr d k at_ fe met).2 = true → (walkN l r fr d k at_ fe met).1 = ((fe + feSum l r d k : Nat) : Int) := by
  intro d
  induction d with
  | zero => intro k at_ fe met h; simp [walkN, feSum]
  | succ d ih =>
    intro k at_ fe met
    rw [walkN, feSum]
    cases otherN (tieA l (r.getD k 0)) at_ with
    | none => simp
    | some c =>
      dsimp only
      by_cases h : met.testBit c = true
      · rw [if_pos h]; simp
      · rw [if_neg h]
        intro h2
        rw [ih _ _ _ _ h2, Nat.add_assoc]

/-! ### lists of drovers -/
theorem ringN_to (l : List S39) (r : List Int) : ∀ d k fe met, (ringN l r d k fe met).2 = true → ∃ c : Nat → Nat, (∀ j, j < d → comB l (r.getD (k + j) 0) (nextI r (k + j)) = some (c j) ∧ met.testBit (c j) = false) ∧ ∀ i j, i < j → j < d → c i ≠ c j := by
  intro d
  induction d with
  | zero => intro k fe met _; exact ⟨fun _ => 0, fun j hj => absurd hj (Nat.not_lt_zero j), fun i j _ hj => absurd hj (Nat.not_lt_zero j)⟩
  | succ d ih =>
    intro k fe met
    rw [ringN]
    cases e : comB l (r.getD k 0) (nextI r k) with
    | none => intro h; simp at h
    | some v =>
      dsimp only
      by_cases h : met.testBit v = true
      · rw [if_pos h]; intro h; simp at h
      · rw [if_neg h]
        intro h2
        obtain ⟨c, h3, h4⟩ := ih _ _ _ h2
        refine ⟨fun j => match j with | 0 => v | j + 1 => c j, fun j hj => ?_, fun i j hij hj => ?_⟩
        · cases j with
          | zero => exact ⟨e, by simpa using h⟩
          | succ j =>
            have := h3 j (by omega)
            rw [or_bit, Bool.or_eq_false_iff] at this
            rw [show k + (j + 1) = k + 1 + j by omega]
            exact ⟨this.1, this.2.1⟩
        · cases j with
          | zero => omega
          | succ j =>
            cases i with
            | zero =>
              have := (h3 j (by omega)).2
              rw [or_bit, Bool.or_eq_false_iff, decide_eq_false_iff_not] at this
              exact fun e => this.2 e.symm
            | succ i => exact h4 i j (by omega) (by omega)
theorem ringN_of (l : List S39) (r : List Int) : ∀ d k fe met (c : Nat → Nat), (∀ j, j < d → comB l (r.getD (k + j) 0) (nextI r (k + j)) = some (c j) ∧ met.testBit (c j) = false) → (∀ i j, i < j → j < d → c i ≠ c j) → (ringN l r d k fe met).2 = true := by
  intro d
  induction d with
  | zero => intros; rfl
  | succ d ih =>
    intro k fe met c h3 h4
    have h0 := h3 0 (by omega)
    rw [Nat.add_zero] at h0
    rw [ringN, h0.1]
    dsimp only
    rw [if_neg (by rw [h0.2]; exact Bool.false_ne_true)]
    refine ih _ _ _ (fun j => c (j + 1)) (fun j hj => ?_) (fun i j hij hj => h4 (i + 1) (j + 1) (by omega) (by omega))
    have := h3 (j + 1) (by omega)
    rw [show k + 1 + j = k + (j + 1) by omega]
    refine ⟨this.1, ?_⟩
    rw [or_bit, this.2, Bool.false_or, decide_eq_false_iff_not]
    exact fun e => h4 0 (j + 1) (by omega) (by omega) e.symm
theorem walkN_to (l : List S39) (r : List Int) (fr : Nat) : ∀ d k at_ fe met, (walkN l r fr d k at_ fe met).2 = true → ∃ c : Nat → Nat, c 0 = at_ ∧ c d = fr ∧ (∀ j, j < d → otherN (tieA l (r.getD (k + j) 0)) (c j) = some (c (j + 1)) ∧ met.testBit (c (j + 1)) = false) ∧ ∀ i j, i < j → j < d → c (i + 1) ≠ c (j + 1) := by
  intro d
  induction d with
  | zero =>
    intro k at_ fe met h
    rw [walkN] at h
    exact ⟨fun _ => at_, rfl, of_decide_eq_true h, fun j hj => absurd hj (Nat.not_lt_zero j), fun i j _ hj => absurd hj (Nat.not_lt_zero j)⟩
  | succ d ih =>
    intro k at_ fe met
    rw [walkN]
    cases e : otherN (tieA l (r.getD k 0)) at_ with
    | none => intro h; simp at h
    | some v =>
      dsimp only
      by_cases h : met.testBit v = true
      · rw [if_pos h]; intro h; simp at h
      · rw [if_neg h]
        intro h2
        obtain ⟨c, h0, hd, h3, h4⟩ := ih _ _ _ _ h2
        refine ⟨fun j => match j with | 0 => at_ | j + 1 => c j, rfl, hd, fun j hj => ?_, fun i j hij hj => ?_⟩
        · cases j with
          | zero =>
            dsimp only
            rw [h0]
            exact ⟨e, by simpa using h⟩
          | succ j =>
            have := h3 j (by omega)
            rw [or_bit, Bool.or_eq_false_iff] at this
            rw [show k + (j + 1) = k + 1 + j by omega]
            exact ⟨this.1, this.2.1⟩
        · cases j with
          | zero => omega
          | succ j =>
            cases i with
            | zero =>
              have := (h3 j (by omega)).2
              rw [or_bit, Bool.or_eq_false_iff, decide_eq_false_iff_not] at this
              dsimp only
              rw [h0]
              exact fun e => this.2 e.symm
            | succ i => exact h4 i j (by omega) (by omega)
theorem walkN_of (l : List S39) (r : List Int) (fr : Nat) : ∀ d k at_ fe met (c : Nat → Nat), c 0 = at_ → c d = fr → (∀ j, j < d → otherN (tieA l (r.getD (k + j) 0)) (c j) = some (c (j + 1)) ∧ met.testBit (c (j + 1)) = false) → (∀ i j, i < j → j < d → c (i + 1) ≠ c (j + 1)) → (walkN l r fr d k at_ fe met).2 = true := by
  intro d
  induction d with
  | zero =>
    intro k at_ fe met c h0 hd _ _
    rw [walkN]
    exact decide_eq_true (h0.symm.trans hd)
  | succ d ih =>
    intro k at_ fe met c h0 hd h3 h4
    have h1 := h3 0 (by omega)
    rw [Nat.add_zero, h0] at h1
    rw [walkN, h1.1]
    dsimp only
    rw [if_neg (by rw [h1.2]; exact Bool.false_ne_true)]
    refine ih _ _ _ _ (fun j => c (j + 1)) rfl hd (fun j hj => ?_) (fun i j hij hj => h4 (i + 1) (j + 1) (by omega) (by omega))
    have := h3 (j + 1) (by omega)
    rw [show k + 1 + j = k + (j + 1) by omega]
    refine ⟨this.1, ?_⟩
    rw [or_bit, this.2, Bool.false_or, decide_eq_false_iff_not]
    exact fun e => h4 0 (j + 1) (by omega) (by omega) e.symm

/-! ### two ties -/
theorem hasB_iff {t : S39} {v : Nat} : hasB t v = true ↔ t.f0 = (v : Int) ∨ t.f1 = (v : Int) := by
  unfold hasB
  rw [Bool.or_eq_true, beq_iff_eq, beq_iff_eq]
theorem other_has {t : S39} {a b : Nat} (h1 : t.f0 < t.f1) (ha : hasB t a = true) (hb : hasB t b = true) (hne : a ≠ b) : otherN t a = some b := by
  rw [hasB_iff] at ha hb
  unfold otherN
  by_cases h : t.f0 = (a : Int)
  · rw [if_pos h]
    have : t.f1.toNat = b := by omega
    rw [this]
  · rw [if_neg h, if_pos (by omega)]
    have : t.f0.toNat = b := by omega
    rw [this]
theorem other_parts {t : S39} {a b : Nat} (h0 : 0 ≤ t.f0) (h1 : t.f0 < t.f1) (h : otherN t a = some b) : hasB t a = true ∧ hasB t b = true ∧ a ≠ b := by
  rw [hasB_iff, hasB_iff]
  unfold otherN at h
  by_cases e : t.f0 = (a : Int)
  · rw [if_pos e] at h
    have := Option.some.inj h
    omega
  · rw [if_neg e] at h
    by_cases e1 : t.f1 = (a : Int)
    · rw [if_pos e1] at h
      have := Option.some.inj h
      omega
    · rw [if_neg e1] at h; exact absurd h (by simp)
theorem com_parts {l : List S39} (hg : goodT l) {i nx : Int} {c : Nat} (h : comB l i nx = some c) : inR l i ∧ inR l nx ∧ hasB (tieA l i) c = true ∧ hasB (tieA l nx) c = true := by
  unfold comB at h
  by_cases h1 : inR l i ∧ inR l nx ∧ i ≠ nx
  · rw [if_pos h1] at h
    have hi := tieA_good hg h1.1
    refine ⟨h1.1, h1.2.1, ?_⟩
    by_cases h2 : hasB (tieA l nx) (tieA l i).f0.toNat = true
    · rw [if_pos h2] at h
      obtain rfl := Option.some.inj h
      exact ⟨hasB_iff.mpr (Or.inl (by omega)), h2⟩
    · rw [if_neg h2] at h
      by_cases h3 : hasB (tieA l nx) (tieA l i).f1.toNat = true
      · rw [if_pos h3] at h
        obtain rfl := Option.some.inj h
        exact ⟨hasB_iff.mpr (Or.inr (by omega)), h3⟩
      · rw [if_neg h3] at h; exact absurd h (by simp)
  · rw [if_neg h1] at h; exact absurd h (by simp)
theorem com_of {l : List S39} (hg : goodT l) {i nx : Int} (hi : inR l i) (hn : inR l nx) {a b x : Nat} (h : otherN (tieA l i) a = some b) (h' : otherN (tieA l nx) b = some x) (hne : x ≠ a) : comB l i nx = some b := by
  have gi := tieA_good hg hi
  have gn := tieA_good hg hn
  have p := other_parts gi.1 gi.2.1 h
  have q := other_parts gn.1 gn.2.1 h'
  rw [hasB_iff, hasB_iff] at p q
  have hin : i ≠ nx := by
    intro e
    subst e
    omega
  unfold comB
  rw [if_pos ⟨hi, hn, hin⟩]
  by_cases e : (tieA l i).f0.toNat = b
  · rw [e, if_pos (hasB_iff.mpr q.1)]
  · rw [if_neg (by rw [hasB_iff]; omega)]
    have e1 : (tieA l i).f1.toNat = b := by omega
    rw [e1, if_pos (hasB_iff.mpr q.1)]

/-! ### the two are one -/
theorem mod_in {k m : Nat} (h : k + 1 < m) : (k + 1) % m = k + 1 := Nat.mod_eq_of_lt h
theorem ring_of_walk {l : List S39} (hg : goodT l) {r : List Int} (h3 : 3 ≤ r.length) (hin : ∀ k, k < r.length → inR l (r.getD k 0)) {fr : Nat} (h : (walkF l r fr).2 = true) : (ringN l r r.length 0 0 0).2 = true := by
  obtain ⟨c, h0, hd, hs, hd2⟩ := walkN_to l r fr _ _ _ _ _ h
  refine ringN_of l r _ _ _ _ (fun j => c (j + 1)) (fun j hj => ⟨?_, Nat.zero_testBit _⟩) hd2
  rw [Nat.zero_add]
  have a1 := (hs j hj).1
  rw [Nat.zero_add] at a1
  by_cases hl : j + 1 < r.length
  · have a2 := (hs (j + 1) hl).1
    rw [Nat.zero_add] at a2
    unfold nextI
    rw [mod_in hl]
    refine com_of hg (hin j hj) (hin _ hl) a1 a2 ?_
    cases j with
    | zero =>
      rw [h0, ← hd]
      have := hd2 1 (r.length - 1) (by omega) (by omega)
      rwa [Nat.sub_add_cancel (by omega)] at this
    | succ j => exact fun e => hd2 j (j + 2) (by omega) (by omega) e.symm
  · have e : j + 1 = r.length := by omega
    have a2 := (hs 0 (by omega)).1
    rw [Nat.zero_add, h0, ← hd, ← e] at a2
    unfold nextI
    rw [e, Nat.mod_self]
    rw [← e]
    refine com_of hg (hin j hj) (hin 0 (by omega)) a1 a2 ?_
    obtain ⟨q, rfl⟩ : ∃ q, j = q + 1 := ⟨j - 1, by omega⟩
    exact hd2 0 q (by omega) (by omega)
theorem walk_of_ring {l : List S39} (hg : goodT l) {r : List Int} (h3 : 3 ≤ r.length) (h : (ringN l r r.length 0 0 0).2 = true) : (∀ k, k < r.length → inR l (r.getD k 0)) ∧ ∃ fr, (fr = (tieA l (r.getD 0 0)).f0.toNat ∨ fr = (tieA l (r.getD 0 0)).f1.toNat) ∧ (walkF l r fr).2 = true := by
  obtain ⟨c, hs, hd⟩ := ringN_to l r _ _ _ _ h
  have hc : ∀ k, k < r.length → inR l (r.getD k 0) ∧ inR l (nextI r k) ∧ hasB (tieA l (r.getD k 0)) (c k) = true ∧ hasB (tieA l (nextI r k)) (c k) = true := by
    intro k hk
    have := (hs k hk).1
    rw [Nat.zero_add] at this
    exact com_parts hg this
  have hin : ∀ k, k < r.length → inR l (r.getD k 0) := fun k hk => (hc k hk).1
  have e : r.length - 1 + 1 = r.length := Nat.sub_add_cancel (by omega)
  have hlast := hc (r.length - 1) (by omega)
  have hn0 : nextI r (r.length - 1) = r.getD 0 0 := by
    unfold nextI
    rw [e, Nat.mod_self]
  rw [hn0] at hlast
  have h00 := tieA_good hg (hin 0 (by omega))
  refine ⟨hin, c (r.length - 1), ?_, ?_⟩
  · have := hasB_iff.mp hlast.2.2.2
    omega
  · refine walkN_of l r _ _ _ _ _ _ (fun j => match j with | 0 => c (r.length - 1) | j + 1 => c j) rfl ?_ (fun j hj => ⟨?_, Nat.zero_testBit _⟩) hd
    · obtain ⟨q, hq⟩ : ∃ q, r.length = q + 1 := ⟨r.length - 1, by omega⟩
      rw [hq]; rfl
    · rw [Nat.zero_add]
      cases j with
      | zero => exact other_has h00.2.1 hlast.2.2.2 (hc 0 hj).2.2.1 (fun e => hd 0 (r.length - 1) (by omega) (by omega) e.symm)
      | succ j =>
        have hj' := hc j (by omega)
        have hn : nextI r j = r.getD (j + 1) 0 := by unfold nextI; rw [mod_in hj]
        rw [hn] at hj'
        exact other_has (tieA_good hg (hin _ hj)).2.1 hj'.2.2.2 (hc _ hj).2.2.1 (hd j (j + 1) (by omega) hj)
theorem ringP_eq {l : List S39} (hg : goodT l) (r : List Int) : ringP l r = isRingR l r := by
  unfold ringP isRingR
  by_cases h3 : r.length < 3
  · rw [if_pos h3, if_pos h3]
  · rw [if_neg h3, if_neg h3]
    have f0 := ringN_fst l r r.length 0 0 0
    have h3' : 3 ≤ r.length := by omega
    by_cases h : (ringN l r r.length 0 0 0).2 = true
    · obtain ⟨hin, fr, hfr, hw⟩ := walk_of_ring hg h3' h
      rw [if_pos h] at f0
      have e1 : ringN l r r.length 0 0 0 = (((0 + feSum l r r.length 0 : Nat) : Int), true) := Prod.ext f0 h
      have e2 : ∀ v, (walkF l r v).2 = true → walkF l r v = (((0 + feSum l r r.length 0 : Nat) : Int), true) := fun v hv => Prod.ext (walkN_fst l r v _ _ _ _ _ hv) hv
      rw [if_pos hin, e1]
      by_cases ha : (walkF l r (tieA l (r.getD 0 0)).f0.toNat).2 = true
      · rw [if_pos ha, e2 _ ha]
      · rw [if_neg ha]
        have hb : (walkF l r (tieA l (r.getD 0 0)).f1.toNat).2 = true := by
          rcases hfr with e | e
          · rw [e] at hw; exact absurd hw ha
          · rw [← e]; exact hw
        rw [if_pos hb, e2 _ hb]
    · rw [if_neg h] at f0
      have e1 : ringN l r r.length 0 0 0 = (0, false) := Prod.ext f0 (by simpa using h)
      rw [e1]
      by_cases hin : ∀ k, k < r.length → inR l (r.getD k 0)
      · rw [if_pos hin, if_neg (fun ha => h (ring_of_walk hg h3' hin ha)), if_neg (fun ha => h (ring_of_walk hg h3' hin ha))]
      · rw [if_neg hin]
end Go.Proofs.Ytaegldcifhgnmaa.A

/- The specification's searches for rings (plain). -/
namespace Go.Proofs.Ytaegldcifhgnmaa.B
open Go.Proofs.Ytaegldcifhgnmaa.A
open Go.RowKit Go.Proofs.YtaegldcifhgnmaaW.PrintWords Go.Proofs.YtaegldcifhgnmaaW.PrintMore
def lessB (a b : List Int) : Bool := decide (cmpL a b < 0)
/-- What is asked for of a ring's feuds. -/
def askB (one : Bool) (fe : Int) : Bool := if one = true then fe == 1 else Int.tmod fe 2 == 1
def ringedR (l : List S39) (one : Bool) : Nat → List Int → Nat → Nat → Option (List Int)
  | 0, now, _, _ => if ((isRingR l now).2 && askB one (isRingR l now).1) = true then some now else none
  | d + 1, now, at_, met => firstN (fun i => match otherN (l.getD i z39) at_ with
    | none => none
    | some v => if met.testBit v = true then none else ringedR l one d (now ++ [(i : Int)]) v (met ||| 2 ^ v)) l.length
def startR (l : List S39) (one : Bool) (size i fr : Nat) : Option (List Int) := ringedR l one (size - 1) [(i : Int)] fr (2 ^ fr)
def pickR (a b : Option (List Int)) : Option (List Int) := match a with
  | none => b
  | some x => match b with
    | none => some x
    | some y => if lessB x y = true then some x else some y
def pairR (l : List S39) (one : Bool) (size i : Nat) : Option (List Int) := pickR (startR l one size i (l.getD i z39).f0.toNat) (startR l one size i (l.getD i z39).f1.toNat)
def sizeR (l : List S39) (one : Bool) (size : Nat) : Option (List Int) := if 3 ≤ size then firstN (pairR l one size) l.length else none
def shortR (l : List S39) (one : Bool) (n : Nat) : Option (List Int) := firstN (sizeR l one) (n + 1)
theorem ringedR_len (l : List S39) (one : Bool) : ∀ d now at_ met x, ringedR l one d now at_ met = some x → x.length = now.length + d := by
  intro d
  induction d with
  | zero =>
    intro now at_ met x h
    rw [ringedR] at h
    split at h
    · cases h; rfl
    · cases h
  | succ d ih =>
    intro now at_ met x h
    rw [ringedR] at h
    have key : ∀ (F : Nat → Option (List Int)), (∀ i x, F i = some x → x.length = now.length + (d + 1)) → ∀ k x, firstN F k = some x → x.length = now.length + (d + 1) := by
      intro F hF k
      induction k with
      | zero => intro x h; cases h
      | succ k ihk =>
        intro x h
        rw [firstN] at h
        cases e : firstN F k with
        | some y =>
          rw [e] at h
          have := Option.some.inj h
          subst this
          exact ihk _ e
        | none => rw [e] at h; exact hF k x h
    refine key _ (fun i x hx => ?_) _ _ h
    cases e : otherN (l.getD i z39) at_ with
    | none => rw [e] at hx; cases hx
    | some v =>
      rw [e] at hx
      dsimp only at hx
      split at hx
      · cases hx
      · have := ih _ _ _ _ hx
        rw [List.length_append, List.length_singleton] at this
        omega
end Go.Proofs.Ytaegldcifhgnmaa.B

/- The program's best list and the specification's shortest ring are one (plain). -/
namespace Go.Proofs.Ytaegldcifhgnmaa.B
open Go.Proofs.Ytaegldcifhgnmaa.A
open Go.RowKit Go.Proofs.YtaegldcifhgnmaaW.PrintWords Go.Proofs.YtaegldcifhgnmaaW.PrintMore

/-! ### the order of lists -/
theorem cmpI_self (a : Int) : cmpI a a = 0 := by unfold cmpI; rw [if_neg (by omega), if_neg (by omega)]
theorem cmpL_self : ∀ a : List Int, cmpL a a = 0
  | [] => rfl
  | a :: at_ => by rw [cmpL, cmpI_self, if_pos rfl, cmpL_self at_]
theorem cmpI_swap (a b : Int) : cmpI b a = - cmpI a b := by
  unfold cmpI
  by_cases h1 : a < b <;> by_cases h2 : b < a <;> simp [h1, h2] <;> omega
theorem cmpI_zero {a b : Int} (h : cmpI a b = 0) : a = b := by
  unfold cmpI at h
  split at h
  · omega
  · split at h <;> omega
theorem cmpL_swap : ∀ a b : List Int, cmpL b a = - cmpL a b
  | [], [] => rfl
  | [], _ :: _ => rfl
  | _ :: _, [] => rfl
  | a :: at_, b :: bs => by
    rw [cmpL, cmpL, cmpI_swap a b, cmpL_swap at_ bs]
    by_cases h : cmpI a b = 0
    · rw [if_pos h, if_pos (by omega)]
    · rw [if_neg h, if_neg (by omega)]
theorem cmpL_eq : ∀ a b : List Int, cmpL a b = 0 → a = b
  | [], [] => fun _ => rfl
  | [], _ :: _ => fun h => by simp [cmpL] at h
  | _ :: _, [] => fun h => by simp [cmpL] at h
  | a :: at_, b :: bs => fun h => by
    rw [cmpL] at h
    by_cases h0 : cmpI a b = 0
    · rw [if_pos h0] at h
      rw [cmpI_zero h0, cmpL_eq at_ bs h]
    · rw [if_neg h0] at h; exact absurd h h0
theorem cmpL_trans : ∀ a b c : List Int, cmpL a b ≤ 0 → cmpL b c ≤ 0 → cmpL a c ≤ 0
  | [], _, [] => fun _ _ => by simp [cmpL]
  | [], _, _ :: _ => fun _ _ => by simp [cmpL]
  | a :: at_, [], _ => fun h _ => by simp [cmpL] at h
  | a :: at_, b :: bs, [] => fun _ h => by simp [cmpL] at h
  | a :: at_, b :: bs, c :: cs => fun h1 h2 => by
    rw [cmpL] at h1 h2 ⊢
    have ih := cmpL_trans at_ bs cs
    unfold cmpI at h1 h2 ⊢
    by_cases x1 : a < b <;> by_cases x2 : b < a <;> by_cases y1 : b < c <;> by_cases y2 : c < b <;> by_cases z1 : a < c <;> by_cases z2 : c < a <;> simp [x1, x2, y1, y2, z1, z2] at h1 h2 ⊢ <;> first | omega | exact ih h1 h2
theorem cmpL_pre : ∀ (p a b : List Int), cmpL (p ++ a) (p ++ b) = cmpL a b
  | [], _, _ => rfl
  | p :: ps, a, b => by rw [List.cons_append, List.cons_append, cmpL, cmpI_self, if_pos rfl, cmpL_pre ps]
theorem cmpL_lt {i j : Int} (h : i < j) (a b : List Int) : cmpL (i :: a) (j :: b) ≤ 0 := by
  rw [cmpL]
  unfold cmpI
  rw [if_pos h, if_neg (by decide)]
  decide

/-! ### the least -/
def IsLeast (P : List Int → Prop) (S : Option (List Int)) : Prop := match S with
  | none => ∀ x, ¬ P x
  | some b => P b ∧ ∀ x, P x → cmpL b x ≤ 0
theorem least_one {P Q : List Int → Prop} {S T : Option (List Int)} (hs : IsLeast P S) (ht : IsLeast Q T) (h : ∀ x, P x ↔ Q x) : S = T := by
  cases S with
  | none =>
    cases T with
    | none => rfl
    | some b => exact absurd ((h b).mpr ht.1) (hs b)
  | some a =>
    cases T with
    | none => exact absurd ((h a).mp hs.1) (ht a)
    | some b =>
      have h1 := hs.2 b ((h b).mpr ht.1)
      have h2 := ht.2 a ((h a).mp hs.1)
      have := cmpL_swap a b
      rw [cmpL_eq a b (by omega)]
theorem least_iff {P Q : List Int → Prop} {S : Option (List Int)} (hs : IsLeast P S) (h : ∀ x, P x ↔ Q x) : IsLeast Q S := by
  cases S with
  | none => exact fun x hx => hs x ((h x).mpr hx)
  | some a => exact ⟨(h a).mp hs.1, fun x hx => hs.2 x ((h x).mpr hx)⟩
theorem least_pick {P Q : List Int → Prop} {S T : Option (List Int)} (hs : IsLeast P S) (ht : IsLeast Q T) : IsLeast (fun x => P x ∨ Q x) (pickR S T) := by
  cases S with
  | none =>
    exact least_iff ht fun x => ⟨Or.inr, fun h => h.elim (fun h => absurd h (hs x)) id⟩
  | some a =>
    cases T with
    | none => exact least_iff hs fun x => ⟨Or.inl, fun h => h.elim id (fun h => absurd h (ht x))⟩
    | some b =>
      unfold pickR
      dsimp only
      by_cases h : lessB a b = true
      · rw [if_pos h]
        have hl : cmpL a b < 0 := of_decide_eq_true h
        exact ⟨Or.inl hs.1, fun x hx => hx.elim (hs.2 x) fun hx => cmpL_trans a b x (by omega) (ht.2 x hx)⟩
      · rw [if_neg h]
        have hl : ¬ cmpL a b < 0 := fun e => h (decide_eq_true e)
        have := cmpL_swap a b
        exact ⟨Or.inr ht.1, fun x hx => hx.elim (fun hx => cmpL_trans b a x (by omega) (hs.2 x hx)) (ht.2 x)⟩
theorem least_first {P : Nat → List Int → Prop} {F : Nat → Option (List Int)} (hF : ∀ i, IsLeast (P i) (F i)) (ho : ∀ i j x y, i < j → P i x → P j y → cmpL x y ≤ 0) : ∀ m, IsLeast (fun x => ∃ i, i < m ∧ P i x) (firstN F m) := by
  intro m
  induction m with
  | zero => exact fun x ⟨i, hi, _⟩ => absurd hi (Nat.not_lt_zero i)
  | succ m ih =>
    rw [firstN]
    cases e : firstN F m with
    | some b =>
      rw [e] at ih
      obtain ⟨i, hi, hp⟩ := ih.1
      refine ⟨⟨i, by omega, hp⟩, fun x ⟨j, hj, hx⟩ => ?_⟩
      by_cases hjm : j < m
      · exact ih.2 x ⟨j, hjm, hx⟩
      · exact ho i j b x (by omega) hp hx
    | none =>
      rw [e] at ih
      refine least_iff (hF m) fun x => ⟨fun h => ⟨m, by omega, h⟩, fun ⟨j, hj, hx⟩ => ?_⟩
      by_cases hjm : j < m
      · exact absurd ⟨j, hjm, hx⟩ (ih x)
      · obtain rfl : j = m := by omega
        exact hx

/-! ### walks -/
def WT (l : List S39) (fr : Nat) : Nat → Nat → List Int → Prop
  | at_, _, [] => at_ = fr
  | at_, met, j :: js => inR l j ∧ ∃ v, otherN (tieA l j) at_ = some v ∧ met.testBit v = false ∧ WT l fr v (met ||| 2 ^ v) js
def PT (l : List S39) (fr : Nat) : Nat → Nat → List Int → Prop
  | at_, _, [] => at_ = fr
  | at_, met, j :: js => inR l j ∧ ∃ v, otherN (tieA l j) at_ = some v ∧ (if js = [] then v = fr else met.testBit v = false) ∧ PT l fr v (met ||| 2 ^ v) js
def DT (l : List S39) : Nat → Nat → List Int → Prop
  | _, _, [] => True
  | at_, met, j :: js => inR l j ∧ ∃ v, otherN (tieA l j) at_ = some v ∧ met.testBit v = false ∧ DT l v (met ||| 2 ^ v) js
def feL (l : List S39) : List Int → Nat
  | [] => 0
  | j :: js => feT (tieA l j) + feL l js
section
variable {l : List S39}
theorem WT_DT {fr : Nat} : ∀ (js : List Int) (at_ met : Nat), WT l fr at_ met js → DT l at_ met js
  | [], _, _, _ => trivial
  | _ :: js, _, _, ⟨h, v, h1, h2, h3⟩ => ⟨h, v, h1, h2, WT_DT js _ _ h3⟩
theorem WT_in {fr : Nat} : ∀ (js : List Int) (at_ met : Nat), WT l fr at_ met js → ∀ j ∈ js, inR l j
  | [], _, _, _ => fun _ hj => absurd hj (by simp)
  | j :: js, _, _, ⟨h, v, _, _, h3⟩ => fun i hi => by
    rcases List.mem_cons.mp hi with e | e
    · rw [e]; exact h
    · exact WT_in js _ _ h3 i e
theorem WT_met {fr : Nat} : ∀ (js : List Int) (at_ met : Nat), met.testBit fr = true → js ≠ [] → ¬ WT l fr at_ met js
  | [], _, _, _, h => fun _ => h rfl
  | j :: js, _, met, hm, _ => fun ⟨_, v, _, h2, h3⟩ => by
    by_cases e : js = []
    · subst e
      rw [WT] at h3
      subst h3
      rw [hm] at h2; cases h2
    · exact WT_met js v (met ||| 2 ^ v) (by rw [or_bit, hm, Bool.true_or]) e h3
theorem WT_PT {fr : Nat} : ∀ (js : List Int) (at_ met : Nat), met.testBit fr = false → (WT l fr at_ met js ↔ PT l fr at_ (met ||| 2 ^ fr) js)
  | [], _, _, _ => Iff.rfl
  | j :: js, at_, met, hm => by
    rw [WT, PT]
    refine and_congr Iff.rfl (exists_congr fun v => and_congr Iff.rfl ?_)
    by_cases e : js = []
    · subst e
      rw [if_pos rfl, WT, PT]
      exact ⟨fun h => ⟨h.2, h.2⟩, fun h => ⟨by rw [h.1]; exact hm, h.2⟩⟩
    · rw [if_neg e]
      have hc : (met ||| 2 ^ fr) ||| 2 ^ v = (met ||| 2 ^ v) ||| 2 ^ fr := by rw [Nat.or_assoc, Nat.or_comm (2 ^ fr), Nat.or_assoc]
      rw [hc, or_bit, Bool.or_eq_false_iff, decide_eq_false_iff_not]
      constructor
      · rintro ⟨h2, h3⟩
        have hv : v ≠ fr := fun ev => WT_met js v (met ||| 2 ^ v) (by rw [or_bit, ev]; simp) e h3
        refine ⟨⟨h2, hv⟩, (WT_PT js v (met ||| 2 ^ v) ?_).mp h3⟩
        rw [or_bit, hm, Bool.false_or, decide_eq_false_iff_not]
        exact fun e => hv e.symm
      · rintro ⟨⟨h2, hv⟩, h3⟩
        refine ⟨h2, (WT_PT js v (met ||| 2 ^ v) ?_).mpr h3⟩
        rw [or_bit, hm, Bool.false_or, decide_eq_false_iff_not]
        exact fun e => hv e.symm
end
end Go.Proofs.Ytaegldcifhgnmaa.B

/- The program's best list and the specification's shortest ring are one: the two searches (plain). -/
namespace Go.Proofs.Ytaegldcifhgnmaa.B
open Go.Proofs.Ytaegldcifhgnmaa.A
open Go.RowKit Go.Proofs.YtaegldcifhgnmaaW.PrintWords Go.Proofs.YtaegldcifhgnmaaW.PrintMore
section
variable {l : List S39}
theorem drop_cons {r : List Int} {k : Nat} (h : k < r.length) : r.drop k = r.getD k 0 :: r.drop (k + 1) := by
  rw [List.drop_eq_getElem_cons h]
  congr 1
  rw [List.getD_eq_getElem?_getD, List.getElem?_eq_getElem h]; rfl
theorem feSum_drop (r : List Int) : ∀ d k, r.length - k = d → k ≤ r.length → feSum l r d k = feL l (r.drop k)
  | 0, k, hd, hk => by
    rw [List.drop_eq_nil_of_le (by omega)]; rfl
  | d + 1, k, hd, hk => by
    rw [drop_cons (by omega), feSum, feL, feSum_drop r d (k + 1) (by omega) (by omega)]; rfl
theorem walkN_WT (r : List Int) (fr : Nat) (hin : ∀ k, k < r.length → inR l (r.getD k 0)) : ∀ d k at_ fe met, r.length - k = d → k ≤ r.length → ((walkN l r fr d k at_ fe met).2 = true ↔ WT l fr at_ met (r.drop k))
  | 0, k, at_, fe, met, hd, hk => by
    rw [List.drop_eq_nil_of_le (by omega), walkN, WT]
    exact decide_eq_true_iff
  | d + 1, k, at_, fe, met, hd, hk => by
    rw [drop_cons (by omega), walkN, WT]
    cases e : otherN (tieA l (r.getD k 0)) at_ with
    | none =>
      dsimp only
      exact ⟨fun h => absurd h Bool.false_ne_true, fun ⟨_, v, h, _⟩ => by cases h⟩
    | some v =>
      dsimp only
      by_cases hb : met.testBit v = true
      · rw [if_pos hb]
        refine ⟨fun h => absurd h Bool.false_ne_true, fun ⟨_, u, h, h2, _⟩ => ?_⟩
        cases h
        rw [hb] at h2; cases h2
      · rw [if_neg hb]
        have ih := walkN_WT r fr hin d (k + 1) v (fe + feA l r k) (met ||| 2 ^ v) (by omega) (by omega)
        rw [ih]
        refine ⟨fun h => ⟨hin k (by omega), v, rfl, by simpa using hb, h⟩, fun ⟨_, u, h, h2, h3⟩ => ?_⟩
        cases h
        exact h3
/-- A ring, one way or the other. -/
def Ringy (l : List S39) (x : List Int) : Prop := ∃ fr : Nat, (fr = (tieA l (x.getD 0 0)).f0.toNat ∨ fr = (tieA l (x.getD 0 0)).f1.toNat) ∧ WT l fr fr 0 x
theorem isRing_iff {x : List Int} (h3 : 3 ≤ x.length) : (isRingR l x).2 = true ↔ Ringy l x := by
  unfold isRingR
  rw [if_neg (by omega)]
  by_cases hin : ∀ k, k < x.length → inR l (x.getD k 0)
  · rw [if_pos hin]
    have w : ∀ fr, (walkF l x fr).2 = true ↔ WT l fr fr 0 x := fun fr => by
      have := walkN_WT x fr hin x.length 0 fr 0 0 (by omega) (Nat.zero_le _)
      rwa [List.drop_zero] at this
    by_cases ha : (walkF l x (tieA l (x.getD 0 0)).f0.toNat).2 = true
    · rw [if_pos ha]
      exact ⟨fun h => ⟨_, Or.inl rfl, (w _).mp h⟩, fun _ => ha⟩
    · rw [if_neg ha]
      by_cases hb : (walkF l x (tieA l (x.getD 0 0)).f1.toNat).2 = true
      · rw [if_pos hb]
        exact ⟨fun h => ⟨_, Or.inr rfl, (w _).mp h⟩, fun _ => hb⟩
      · rw [if_neg hb]
        refine ⟨fun h => absurd h Bool.false_ne_true, fun ⟨fr, hf, hw⟩ => ?_⟩
        rcases hf with e | e
        · rw [e, ← w] at hw; exact absurd hw ha
        · rw [e, ← w] at hw; exact absurd hw hb
  · rw [if_neg hin]
    refine ⟨fun h => absurd h Bool.false_ne_true, fun ⟨fr, _, hw⟩ => ?_⟩
    exact absurd (fun k hk => WT_in x _ _ hw _ (getD_mem 0 hk)) hin
theorem isRing_fe {x : List Int} (h3 : 3 ≤ x.length) (h : (isRingR l x).2 = true) : (isRingR l x).1 = (feL l x : Int) := by
  have w : ∀ fr, (walkF l x fr).2 = true → (walkF l x fr).1 = (feL l x : Int) := fun fr hf => by
    have := walkN_fst l x fr x.length 0 fr 0 0 hf
    rw [Nat.zero_add, feSum_drop x x.length 0 (by omega) (Nat.zero_le _), List.drop_zero] at this
    exact this
  unfold isRingR at h ⊢
  rw [if_neg (by omega)] at h ⊢
  by_cases hin : ∀ k, k < x.length → inR l (x.getD k 0)
  · rw [if_pos hin] at h ⊢
    by_cases ha : (walkF l x (tieA l (x.getD 0 0)).f0.toNat).2 = true
    · rw [if_pos ha]; exact w _ ha
    · rw [if_neg ha] at h ⊢
      by_cases hb : (walkF l x (tieA l (x.getD 0 0)).f1.toNat).2 = true
      · rw [if_pos hb]; exact w _ hb
      · rw [if_neg hb] at h; exact absurd h Bool.false_ne_true
  · rw [if_neg hin] at h; exact absurd h Bool.false_ne_true

/-! ### the specification -/
def okX (l : List S39) (one : Bool) (x : List Int) : Prop := ((isRingR l x).2 && askB one (isRingR l x).1) = true
theorem rg_least (one : Bool) : ∀ d now at_ met, IsLeast (fun x => ∃ js, x = now ++ js ∧ js.length = d ∧ DT l at_ met js ∧ okX l one x) (ringedR l one d now at_ met)
  | 0, now, at_, met => by
    rw [ringedR]
    by_cases h : ((isRingR l now).2 && askB one (isRingR l now).1) = true
    · rw [if_pos h]
      refine ⟨⟨[], by simp, rfl, trivial, h⟩, fun x ⟨js, e, hl, _, _⟩ => ?_⟩
      obtain rfl := List.eq_nil_of_length_eq_zero hl
      rw [e, List.append_nil, cmpL_self]; decide
    · rw [if_neg h]
      rintro x ⟨js, e, hl, _, hx⟩
      obtain rfl := List.eq_nil_of_length_eq_zero hl
      rw [e, List.append_nil] at hx
      exact h hx
  | d + 1, now, at_, met => by
    rw [ringedR]
    have key := least_first (P := fun i x => i < l.length ∧ ∃ v js, x = (now ++ [(i : Int)]) ++ js ∧ js.length = d ∧ otherN (l.getD i z39) at_ = some v ∧ met.testBit v = false ∧ DT l v (met ||| 2 ^ v) js ∧ okX l one x)
      (F := fun i => if i < l.length then (match otherN (l.getD i z39) at_ with
        | none => none
        | some v => if met.testBit v = true then none else ringedR l one d (now ++ [(i : Int)]) v (met ||| 2 ^ v)) else none) (fun i => by
        by_cases hi : i < l.length
        · rw [if_pos hi]
          cases e : otherN (l.getD i z39) at_ with
          | none => rintro x ⟨_, v, js, _, _, h, _⟩; cases h
          | some v =>
            dsimp only
            by_cases hb : met.testBit v = true
            · rw [if_pos hb]
              rintro x ⟨_, u, js, _, _, h, h2, _⟩
              cases h
              rw [hb] at h2; cases h2
            · rw [if_neg hb]
              refine least_iff (rg_least one d (now ++ [(i : Int)]) v (met ||| 2 ^ v)) fun x => ⟨fun ⟨js, h1, h2, h3, h4⟩ => ⟨hi, v, js, h1, h2, rfl, by simpa using hb, h3, h4⟩, fun ⟨_, u, js, h1, h2, h, h5, h3, h4⟩ => ?_⟩
              cases h
              exact ⟨js, h1, h2, h3, h4⟩
        · rw [if_neg hi]
          exact fun x h => hi h.1) (fun i j x y hij ⟨_, v, js, h1, _⟩ ⟨_, u, js', h2, _⟩ => by
        rw [h1, h2, List.append_assoc, List.append_assoc, cmpL_pre]
        exact cmpL_lt (by omega) _ _) l.length
    have hsame : firstN (fun i => if i < l.length then (match otherN (l.getD i z39) at_ with
        | none => none
        | some v => if met.testBit v = true then none else ringedR l one d (now ++ [(i : Int)]) v (met ||| 2 ^ v)) else none) l.length = firstN (fun i => match otherN (l.getD i z39) at_ with
        | none => none
        | some v => if met.testBit v = true then none else ringedR l one d (now ++ [(i : Int)]) v (met ||| 2 ^ v)) l.length := by
      have gen : ∀ (F : Nat → Option (List Int)) m, m ≤ l.length → firstN (fun i => if i < l.length then F i else none) m = firstN F m := by
        intro F m
        induction m with
        | zero => intro _; rfl
        | succ m ih => intro hm; rw [firstN, firstN, ih (by omega), if_pos (by omega)]
      exact gen _ _ (Nat.le_refl _)
    rw [hsame] at key
    refine least_iff key fun x => ⟨?_, ?_⟩
    · rintro ⟨i, hi, _, v, js, h1, h2, h3, h4, h5, h6⟩
      refine ⟨(i : Int) :: js, by rw [h1, List.append_assoc]; rfl, by simp [h2], ⟨⟨by omega, by omega⟩, v, ?_, h4, h5⟩, h6⟩
      unfold tieA
      rw [Int.toNat_natCast]; exact h3
    · rintro ⟨js, h1, h2, h3, h4⟩
      cases js with
      | nil => simp at h2
      | cons j js =>
        obtain ⟨hj, v, h5, h6, h7⟩ := h3
        obtain ⟨i, rfl⟩ := Int.eq_ofNat_of_zero_le hj.1
        have hi : i < l.length := by have := hj.2; omega
        unfold tieA at h5
        rw [Int.toNat_natCast] at h5
        exact ⟨i, hi, hi, v, js, by rw [h1, List.append_assoc]; rfl, by simpa using h2, h5, h6, h7, h4⟩
/-- The rings of a size that are asked for. -/
def RingP (l : List S39) (one : Bool) (k : Nat) (x : List Int) : Prop := x.length = k ∧ Ringy l x ∧ askB one (feL l x) = true
theorem okX_iff {one : Bool} {x : List Int} (h3 : 3 ≤ x.length) : okX l one x ↔ Ringy l x ∧ askB one (feL l x) = true := by
  unfold okX
  rw [Bool.and_eq_true, isRing_iff h3]
  refine and_congr_right fun h => ?_
  rw [isRing_fe h3 ((isRing_iff h3).mpr h)]
theorem sizeR_least (hg : goodT l) (one : Bool) {k : Nat} (h3 : 3 ≤ k) : IsLeast (RingP l one k) (sizeR l one k) := by
  unfold sizeR
  rw [if_pos h3]
  have hst : ∀ i fr : Nat, IsLeast (fun x => ∃ js, x = [(i : Int)] ++ js ∧ js.length = k - 1 ∧ DT l fr (2 ^ fr) js ∧ okX l one x) (startR l one k i fr) := fun i fr => rg_least one (k - 1) [(i : Int)] fr (2 ^ fr)
  have hpair : ∀ i : Nat, IsLeast (fun x => (∃ js, x = [(i : Int)] ++ js ∧ js.length = k - 1 ∧ DT l (l.getD i z39).f0.toNat (2 ^ (l.getD i z39).f0.toNat) js ∧ okX l one x) ∨ ∃ js, x = [(i : Int)] ++ js ∧ js.length = k - 1 ∧ DT l (l.getD i z39).f1.toNat (2 ^ (l.getD i z39).f1.toNat) js ∧ okX l one x) (pairR l one k i) := fun i => least_pick (hst i _) (hst i _)
  refine least_iff (least_first hpair (fun i j x y hij hx hy => ?_) l.length) fun x => ⟨?_, ?_⟩
  · obtain ⟨js, rfl⟩ : ∃ js, x = (i : Int) :: js := by rcases hx with ⟨js, h, _⟩ | ⟨js, h, _⟩ <;> exact ⟨js, h⟩
    obtain ⟨js', rfl⟩ : ∃ js, y = (j : Int) :: js := by rcases hy with ⟨js, h, _⟩ | ⟨js, h, _⟩ <;> exact ⟨js, h⟩
    exact cmpL_lt (by omega) _ _
  · rintro ⟨i, _, h⟩
    rcases h with ⟨js, h1, h2, _, h4⟩ | ⟨js, h1, h2, _, h4⟩
    all_goals
      have hl : x.length = k := by rw [h1, List.length_append, List.length_singleton]; omega
      exact ⟨hl, (okX_iff (by omega)).mp h4⟩
  · rintro ⟨hl, hr, ha⟩
    obtain ⟨fr, hfr, hw⟩ := id hr
    cases x with
    | nil => simp at hl; omega
    | cons j js =>
      obtain ⟨hj, v, h5, h6, h7⟩ := hw
      have gj := tieA_good hg hj
      have hp := other_parts gj.1 gj.2.1 h5
      have hv := hasB_iff.mp hp.2.1
      obtain ⟨i, rfl⟩ := Int.eq_ofNat_of_zero_le hj.1
      have hi : i < l.length := by have := hj.2; omega
      rw [Nat.zero_or] at h7
      have hd := WT_DT js _ _ h7
      have hta : tieA l (i : Int) = l.getD i z39 := by unfold tieA; rw [Int.toNat_natCast]
      rw [hta] at hv gj
      have hok := (okX_iff (one := one) (x := (i : Int) :: js) (by rw [hl]; exact h3)).mpr ⟨hr, ha⟩
      have hjl : js.length = k - 1 := by rw [List.length_cons] at hl; omega
      refine ⟨i, hi, ?_⟩
      rcases hv with e | e
      · left
        have : (l.getD i z39).f0.toNat = v := by omega
        rw [this]
        exact ⟨js, rfl, hjl, hd, hok⟩
      · right
        have : (l.getD i z39).f1.toNat = v := by omega
        rw [this]
        exact ⟨js, rfl, hjl, hd, hok⟩

/-! ### the program -/
theorem toT_other {t : S39} (h0 : 0 ≤ t.f0) (h1 : t.f0 < t.f1) (a v : Nat) : otherN t a = some v ↔ hasB t a = true ∧ v = toT t a := by
  constructor
  · intro h
    have hp := other_parts h0 h1 h
    have ha := hasB_iff.mp hp.1
    have hv := hasB_iff.mp hp.2.1
    refine ⟨hp.1, ?_⟩
    unfold toT
    have := hp.2.2
    omega
  · rintro ⟨ha, rfl⟩
    have ha' := hasB_iff.mp ha
    refine other_has h1 ha (hasB_iff.mpr ?_) ?_ <;> unfold toT <;> omega
theorem onF_iff (hg : goodT l) (fr : Nat) : ∀ d now at_ met fe x g, (x, g) ∈ onF l fr d now at_ met fe ↔ ∃ js, x = now ++ js ∧ js.length = d ∧ PT l fr at_ met js ∧ g = fe + feL l js
  | 0, now, at_, met, fe, x, g => by
    rw [onF]
    constructor
    · intro h
      by_cases e : at_ = fr
      · rw [if_pos e] at h
        have := List.mem_singleton.mp h
        cases this
        exact ⟨[], by simp, rfl, e, rfl⟩
      · rw [if_neg e] at h; exact absurd h (by simp)
    · rintro ⟨js, h1, h2, h3, h4⟩
      obtain rfl := List.eq_nil_of_length_eq_zero h2
      rw [PT] at h3
      rw [if_pos h3, List.mem_singleton, h1, h4, List.append_nil]; rfl
  | d + 1, now, at_, met, fe, x, g => by
    rw [onF, List.mem_flatMap]
    constructor
    · rintro ⟨i, hi, h⟩
      rw [List.mem_range] at hi
      by_cases hgo : goesB (l.getD i z39) fr d at_ met = true
      · rw [if_pos hgo] at h
        obtain ⟨js, h1, h2, h3, h4⟩ := (onF_iff hg fr d _ _ _ _ x g).mp h
        have hin : inR l (i : Int) := ⟨by omega, by omega⟩
        have hta : tieA l (i : Int) = l.getD i z39 := by unfold tieA; rw [Int.toNat_natCast]
        have gi := tieA_good hg hin
        rw [hta] at gi
        unfold goesB at hgo
        rw [Bool.and_eq_true] at hgo
        refine ⟨(i : Int) :: js, by rw [h1, List.append_assoc]; rfl, by simp [h2], ⟨hin, toT (l.getD i z39) at_, ?_, ?_, h3⟩, ?_⟩
        · rw [hta, toT_other gi.1 gi.2.1]; exact ⟨hgo.1, rfl⟩
        · by_cases e : js = []
          · rw [if_pos e]
            have hd : d = 0 := by rw [← h2, e]; rfl
            rw [if_pos hd] at hgo
            exact of_decide_eq_true hgo.2
          · rw [if_neg e]
            have hd : d ≠ 0 := fun hd => e (List.eq_nil_of_length_eq_zero (h2.trans hd))
            rw [if_neg hd] at hgo
            simpa using hgo.2
        · rw [h4, feL, hta, Nat.add_assoc]
      · rw [if_neg hgo] at h; exact absurd h (by simp)
    · rintro ⟨js, h1, h2, h3, h4⟩
      cases js with
      | nil => simp at h2
      | cons j js =>
        obtain ⟨hj, v, h5, h6, h7⟩ := h3
        have gj := tieA_good hg hj
        obtain ⟨i, rfl⟩ := Int.eq_ofNat_of_zero_le hj.1
        have hi : i < l.length := by have := hj.2; omega
        have hta : tieA l (i : Int) = l.getD i z39 := by unfold tieA; rw [Int.toNat_natCast]
        rw [hta] at gj h5
        have ht := (toT_other gj.1 gj.2.1 at_ v).mp h5
        have hjl : js.length = d := by simpa using h2
        refine ⟨i, List.mem_range.mpr hi, ?_⟩
        have hgo : goesB (l.getD i z39) fr d at_ met = true := by
          unfold goesB
          rw [ht.1, Bool.true_and, ← ht.2]
          by_cases e : js = []
          · rw [if_pos e] at h6
            rw [if_pos (by rw [← hjl, e]; rfl)]
            exact decide_eq_true h6
          · rw [if_neg e] at h6
            rw [if_neg (fun hd => e (List.eq_nil_of_length_eq_zero (hjl.trans hd))), h6]; rfl
        rw [if_pos hgo, onF_iff hg fr d, ← ht.2]
        refine ⟨js, by rw [h1, List.append_assoc]; rfl, hjl, h7, ?_⟩
        rw [h4, feL, hta, Nat.add_assoc]
theorem fromF_iff (hg : goodT l) {i d fr : Nat} (hi : i < l.length) (hf : fr = (l.getD i z39).f0.toNat ∨ fr = (l.getD i z39).f1.toNat) (x : List Int) (g : Nat) : (x, g) ∈ fromF l d i fr ↔ ∃ js, x = (i : Int) :: js ∧ js.length = d ∧ WT l fr fr 0 x ∧ g = feL l x := by
  have hin : inR l (i : Int) := ⟨by omega, by omega⟩
  have hta : tieA l (i : Int) = l.getD i z39 := by unfold tieA; rw [Int.toNat_natCast]
  have gi := tieA_good hg hin
  rw [hta] at gi
  have hh : hasB (l.getD i z39) fr = true := hasB_iff.mpr (by omega)
  have ho := (toT_other gi.1 gi.2.1 fr _).mpr ⟨hh, rfl⟩
  have hne := (other_parts gi.1 gi.2.1 ho).2.2
  have hm : 2 ^ (l.getD i z39).f0.toNat ||| 2 ^ (l.getD i z39).f1.toNat = 2 ^ toT (l.getD i z39) fr ||| 2 ^ fr := by
    rcases hf with e | e
    · have : (l.getD i z39).f1.toNat = toT (l.getD i z39) fr := by unfold toT; omega
      rw [this, ← e, Nat.or_comm]
    · have : (l.getD i z39).f0.toNat = toT (l.getD i z39) fr := by unfold toT; omega
      rw [this, ← e]
  unfold fromF
  rw [hm, onF_iff hg]
  have hz : (2 ^ toT (l.getD i z39) fr).testBit fr = false := by
    rw [tb_two, beq_eq_false_iff_ne]; exact hne
  refine exists_congr fun js => ?_
  constructor
  · rintro ⟨h1, h2, h3, h4⟩
    refine ⟨h1, h2, ?_, ?_⟩
    · rw [h1]
      show WT l fr fr 0 ((i : Int) :: js)
      refine ⟨hin, _, by rw [hta]; exact ho, Nat.zero_testBit _, ?_⟩
      rw [Nat.zero_or]
      exact (WT_PT js _ _ hz).mpr h3
    · rw [h1, h4]
      show _ = feL l ((i : Int) :: js)
      rw [feL, hta]
  · rintro ⟨h1, h2, h3, h4⟩
    rw [h1] at h3
    obtain ⟨_, v, h5, _, h7⟩ := h3
    rw [hta, ho] at h5
    cases h5
    rw [Nat.zero_or] at h7
    refine ⟨h1, h2, (WT_PT js _ _ hz).mp h7, ?_⟩
    rw [h4, h1, feL, hta]
theorem ringsF_iff (hg : goodT l) (d : Nat) (x : List Int) (g : Nat) : (x, g) ∈ ringsF l d ↔ x.length = d + 1 ∧ Ringy l x ∧ g = feL l x := by
  unfold ringsF ringsK
  rw [List.mem_flatMap]
  constructor
  · rintro ⟨i, hi, h⟩
    rw [List.mem_range] at hi
    have hta : tieA l (i : Int) = l.getD i z39 := by unfold tieA; rw [Int.toNat_natCast]
    rcases List.mem_append.mp h with h | h
    · obtain ⟨js, h1, h2, h3, h4⟩ := (fromF_iff hg hi (Or.inl rfl) x g).mp h
      refine ⟨by rw [h1, List.length_cons, h2], ⟨_, Or.inl ?_, h3⟩, h4⟩
      rw [h1]; show _ = (tieA l (i : Int)).f0.toNat; rw [hta]
    · obtain ⟨js, h1, h2, h3, h4⟩ := (fromF_iff hg hi (Or.inr rfl) x g).mp h
      refine ⟨by rw [h1, List.length_cons, h2], ⟨_, Or.inr ?_, h3⟩, h4⟩
      rw [h1]; show _ = (tieA l (i : Int)).f1.toNat; rw [hta]
  · rintro ⟨hl, ⟨fr, hf, hw⟩, h4⟩
    cases x with
    | nil => simp at hl
    | cons j js =>
      have hj := hw.1
      obtain ⟨i, rfl⟩ := Int.eq_ofNat_of_zero_le hj.1
      have hi : i < l.length := by have := hj.2; omega
      have hta : tieA l (i : Int) = l.getD i z39 := by unfold tieA; rw [Int.toNat_natCast]
      have hf' : fr = (l.getD i z39).f0.toNat ∨ fr = (l.getD i z39).f1.toNat := by rw [← hta]; exact hf
      have hjl : js.length = d := by simpa using hl
      refine ⟨i, List.mem_range.mpr hi, List.mem_append.mpr ?_⟩
      rcases hf' with e | e
      · left
        rw [← e]
        exact (fromF_iff hg hi (Or.inl e) _ g).mpr ⟨js, rfl, hjl, hw, h4⟩
      · right
        rw [← e]
        exact (fromF_iff hg hi (Or.inr e) _ g).mpr ⟨js, rfl, hjl, hw, h4⟩
theorem foldB_least (p : Nat → Bool) : ∀ (V : List (List Int × Nat)) (s : Option (List Int)) (P : List Int → Prop), IsLeast P s → IsLeast (fun x => P x ∨ ∃ g, (x, g) ∈ V ∧ p g = true) (foldV (stepB p) s V)
  | [], s, P, h => least_iff h fun x => ⟨Or.inl, fun h => h.elim id fun ⟨_, h, _⟩ => absurd h (by simp)⟩
  | (now, fe) :: V, s, P, h => by
    have h1 : IsLeast (fun x => P x ∨ (x = now ∧ p fe = true)) (stepB p s now fe) := by
      unfold stepB
      by_cases hp : p fe = true
      · rw [hp, Bool.true_and]
        cases s with
        | none =>
          rw [if_pos rfl]
          exact ⟨Or.inr ⟨rfl, rfl⟩, fun x hx => hx.elim (fun hx => absurd hx (h x)) fun hx => by rw [hx.1, cmpL_self]; decide⟩
        | some b =>
          dsimp only
          by_cases hb : cmpL now b < 0
          · rw [if_pos (decide_eq_true hb)]
            exact ⟨Or.inr ⟨rfl, rfl⟩, fun x hx => hx.elim (fun hx => cmpL_trans _ _ _ (by omega) (h.2 x hx)) fun hx => by rw [hx.1, cmpL_self]; decide⟩
          · rw [if_neg (by simpa using hb)]
            have := cmpL_swap now b
            exact ⟨Or.inl h.1, fun x hx => hx.elim (h.2 x) fun hx => by rw [hx.1]; omega⟩
      · have hp' : p fe = false := by simpa using hp
        rw [hp', Bool.false_and, if_neg Bool.false_ne_true]
        exact least_iff h fun x => ⟨Or.inl, fun hx => hx.elim id fun hx => absurd hx.2 Bool.false_ne_true⟩
    have h2 := foldB_least p V _ _ h1
    refine least_iff h2 fun x => ⟨?_, ?_⟩
    · rintro ((h | ⟨rfl, h⟩) | ⟨g, h, hg⟩)
      · exact Or.inl h
      · exact Or.inr ⟨fe, List.mem_cons_self, h⟩
      · exact Or.inr ⟨g, List.mem_cons_of_mem _ h, hg⟩
    · rintro (h | ⟨g, h, hg⟩)
      · exact Or.inl (Or.inl h)
      · rcases List.mem_cons.mp h with e | e
        · cases e; exact Or.inl (Or.inr ⟨rfl, hg⟩)
        · exact Or.inr ⟨g, e, hg⟩
theorem bestN_least (hg : goodT l) (p : Nat → Bool) (one : Bool) (hp : ∀ g : Nat, p g = askB one (g : Int)) {k : Nat} (h3 : 3 ≤ k) : IsLeast (RingP l one k) (bestN p l k) := by
  unfold bestN
  refine least_iff (foldB_least p (ringsF l (k - 1)) none (fun _ => False) (fun _ h => h)) fun x => ⟨?_, ?_⟩
  · rintro (h | ⟨g, h, hg'⟩)
    · exact h.elim
    · obtain ⟨h1, h2, h4⟩ := (ringsF_iff hg _ x g).mp h
      refine ⟨by omega, h2, ?_⟩
      rw [← hp, ← h4]; exact hg'
  · rintro ⟨h1, h2, h4⟩
    exact Or.inr ⟨feL l x, (ringsF_iff hg _ x _).mpr ⟨by omega, h2, rfl⟩, by rw [hp]; exact h4⟩
theorem firstN_congr {α : Type} {F G : Nat → Option α} (h : ∀ i, F i = G i) (m : Nat) : firstN F m = firstN G m := by
  rw [show F = G from funext h]
theorem find_short (hg : goodT l) (p : Nat → Bool) (one : Bool) (hp : ∀ g : Nat, p g = askB one (g : Int)) (n : Nat) : findF p l n = shortR l one n := by
  unfold findF shortR
  refine firstN_congr (fun k => ?_) _
  unfold bestA
  by_cases h : 3 ≤ k
  · rw [if_pos h]
    exact least_one (bestN_least hg p one hp h) (sizeR_least hg one h) (fun x => Iff.rfl)
  · rw [if_neg h]; unfold sizeR; rw [if_neg h]
theorem ask_odd (g : Nat) : oddB g = askB false (g : Int) := by
  unfold oddB askB
  rw [if_neg Bool.false_ne_true, Int.tmod_eq_emod_of_nonneg (Int.natCast_nonneg _)]
  by_cases h : g % 2 = 1
  · rw [beq_iff_eq.mpr h, beq_iff_eq.mpr (by omega)]
  · rw [beq_eq_false_iff_ne.mpr h, beq_eq_false_iff_ne.mpr (by omega)]
theorem ask_one (g : Nat) : oneB g = askB true (g : Int) := by
  unfold oneB askB
  rw [if_pos rfl]
  by_cases h : g = 1
  · rw [beq_iff_eq.mpr h, beq_iff_eq.mpr (by omega)]
  · rw [beq_eq_false_iff_ne.mpr h, beq_eq_false_iff_ne.mpr (by omega)]
end
end Go.Proofs.Ytaegldcifhgnmaa.B

/- Ties of the same drovers; what Least's ties are the fewest of (plain). -/
namespace Go.Proofs.Ytaegldcifhgnmaa.A
open Go.RowKit Go.Proofs.YtaegldcifhgnmaaW.PrintWords Go.Proofs.YtaegldcifhgnmaaW.PrintMore

theorem getD_map {l : List S39} {i : Nat} (hi : i < l.length) : (l.map pairT).getD i (0, 0) = pairT (l.getD i z39) := by
  rw [List.getD_eq_getElem?_getD, List.getD_eq_getElem?_getD, List.getElem?_map, List.getElem?_eq_getElem hi]; rfl
theorem pairs_get {l l' : List S39} (h : l'.map pairT = l.map pairT) {i : Nat} (hi : i < l.length) : pairT (l'.getD i z39) = pairT (l.getD i z39) := by
  have hl : l'.length = l.length := by have := congrArg List.length h; simpa using this
  rw [← getD_map hi, ← getD_map (show i < l'.length by omega), h]
theorem okT_pair {n : Int} {t t' : S39} (h : pairT t' = pairT t) : okT n t' = okT n t := by
  unfold pairT at h
  rw [Prod.mk.injEq] at h
  unfold okT
  rw [h.1, h.2]
theorem okAt_pairs {n : Int} {l l' : List S39} (h : l'.map pairT = l.map pairT) {i : Nat} (hi : i < l.length) : okAt n l' i = okAt n l i := by
  unfold okAt
  rw [okT_pair (pairs_get h hi), pairs_get h hi, List.map_take, List.map_take, h]
theorem okTies_pairs {n : Int} {l l' : List S39} (h : l'.map pairT = l.map pairT) : okTies n l' = okTies n l := by
  have hl : l'.length = l.length := by have := congrArg List.length h; simpa using this
  unfold okTies
  rw [hl, Bool.eq_iff_iff, List.all_eq_true, List.all_eq_true]
  constructor
  · intro q i hi
    rw [← okAt_pairs h (List.mem_range.1 hi)]; exact q i hi
  · intro q i hi
    rw [okAt_pairs h (List.mem_range.1 hi)]; exact q i hi
theorem tiesE_pairs {n : Int} {l l' : List S39} (h : l'.map pairT = l.map pairT) : tiesE n l' = tiesE n l := by
  have hl : l'.length = l.length := by have := congrArg List.length h; simpa using this
  unfold tiesE
  rw [hl, okTies_pairs h]
theorem cross_pair {t t' : S39} (h : pairT t' = pairT t) (s : Nat) : crossB t' s = crossB t s := by
  unfold pairT at h
  rw [Prod.mk.injEq] at h
  unfold crossB
  rw [h.1, h.2]

/-- Do two ties differ? -/
def difB (a b : S39) : Bool := !(a.f0 == b.f0) || (!(a.f1 == b.f1) || !(a.f2 == b.f2))
theorem difB_no {a b : S39} (h : difB a b = false) : a = b := by
  obtain ⟨a0, a1, a2⟩ := a
  obtain ⟨b0, b1, b2⟩ := b
  simp [difB] at h
  obtain ⟨rfl, rfl, rfl⟩ := h
  rfl
/-- How many of the first k ties differ. -/
def difK (l l' : List S39) (k : Nat) : Nat := ((List.range k).filter fun i => difB (l'.getD i z39) (l.getD i z39)).length
theorem difK_succ (l l' : List S39) (k : Nat) : difK l l' (k + 1) = if difB (l'.getD k z39) (l.getD k z39) = true then difK l l' k + 1 else difK l l' k := by
  unfold difK
  rw [List.range_succ, List.filter_append, List.length_append]
  cases h : difB (l'.getD k z39) (l.getD k z39)
  · rw [List.filter_cons, h]; simp
  · rw [List.filter_cons, h]; simp
theorem filter_len_le {α : Type} {p q : α → Bool} : ∀ l : List α, (∀ x ∈ l, p x = true → q x = true) → (l.filter p).length ≤ (l.filter q).length
  | [], _ => Nat.le_refl _
  | x :: xs, h => by
    have ih := filter_len_le xs fun y hy => h y (List.mem_cons_of_mem _ hy)
    rw [List.filter_cons, List.filter_cons]
    by_cases hp : p x = true
    · rw [if_pos hp, if_pos (h x (List.mem_cons_self) hp)]
      simp only [List.length_cons]; omega
    · rw [if_neg hp]
      split
      · simp only [List.length_cons]; omega
      · exact ih

theorem wrongF_nil {l : List S39} {s : Nat} (h : (wrongF l s).isEmpty = true) {i : Nat} (hi : i < l.length) : wrB (l.getD i z39) s = false := by
  rw [List.isEmpty_iff] at h
  unfold wrongF wrongK at h
  rw [List.map_eq_nil_iff, List.filter_eq_nil_iff] at h
  have := h i (List.mem_range.2 hi)
  simpa using this
theorem wrongF_empty {l : List S39} {s : Nat} (h : ∀ i, i < l.length → wrB (l.getD i z39) s = false) : (wrongF l s).isEmpty = true := by
  rw [List.isEmpty_iff]
  unfold wrongF wrongK
  rw [List.map_eq_nil_iff, List.filter_eq_nil_iff]
  intro i hi
  rw [h i (List.mem_range.1 hi)]; simp
/-- Where the changed ties are calm with a set, the set has at most as many wrong ties as were changed. -/
theorem wrong_le {l l' : List S39} {s : Nat} (hp : l'.map pairT = l.map pairT) (h : (wrongF l' s).isEmpty = true) : (wrongF l s).length ≤ difK l l' l.length := by
  have hl : l'.length = l.length := by have := congrArg List.length hp; simpa using this
  unfold wrongF wrongK difK
  rw [List.length_map]
  refine filter_len_le _ fun i hi hw => ?_
  have hi := List.mem_range.1 hi
  have h0 := wrongF_nil h (show i < l'.length by omega)
  cases hd : difB (l'.getD i z39) (l.getD i z39) with
  | true => rfl
  | false =>
    rw [difB_no hd] at h0
    rw [h0] at hw
    cases hw
theorem leastK_le (l : List S39) : ∀ k s, s < k → (leastK l k).2.length ≤ (wrongF l s).length
  | 0, s, h => absurd h (Nat.not_lt_zero _)
  | k + 1, s, h => by
    rw [leastK]
    by_cases hs : s = k
    · subst hs
      split
      · exact Nat.le_refl _
      · omega
    · have := leastK_le l k s (by omega)
      split
      · have : (wrongF l k).length < (leastK l k).2.length := by assumption
        show (wrongF l k).length ≤ _
        omega
      · exact this
theorem leastK_spec (l : List S39) : ∀ k, 0 < k → (leastK l k).1 < k ∧ (leastK l k).2 = wrongF l (leastK l k).1 ∧ ∀ s, s < (leastK l k).1 → (leastK l k).2.length < (wrongF l s).length
  | 0, h => absurd h (Nat.lt_irrefl _)
  | k + 1, _ => by
    rw [leastK]
    by_cases h0 : k = 0
    · subst h0
      have e : leastK l 0 = (0, wrongF l 0) := rfl
      rw [e]
      rw [if_neg (Nat.lt_irrefl _)]
      exact ⟨Nat.zero_lt_one, rfl, fun s hs => absurd hs (Nat.not_lt_zero _)⟩
    · obtain ⟨i1, i2, i3⟩ := leastK_spec l k (by omega)
      split
      · rename_i hlt
        refine ⟨Nat.lt_succ_self _, rfl, fun s hs => ?_⟩
        have := leastK_le l k s hs
        show (wrongF l k).length < _
        omega
      · exact ⟨by omega, i2, i3⟩
theorem sidesN_some {m : Nat} {l : List S39} {s : Nat} (h : sidesN m l = some s) : s < 2 ^ m ∧ (wrongF l s).isEmpty = true := by
  unfold sidesN at h
  rw [List.find?_range_eq_some] at h
  exact ⟨List.mem_range.1 h.2.1, h.1⟩
theorem sidesN_none {m : Nat} {l : List S39} (h : sidesN m l = none) (s : Nat) (hs : s < 2 ^ m) : (wrongF l s).isEmpty = false := by
  unfold sidesN at h
  rw [List.find?_range_eq_none] at h
  simpa using h s hs
/-- The law of fewer changes. -/
theorem fewer_main {n : Int} {l l' : List S39} (h : tiesE n l = 0) (hp : l'.map pairT = l.map pairT) : (leastK l (2 ^ n.toNat)).2.length ≤ difK l l' l.length ∨ (sidesF n l').2 = 10 := by
  unfold sidesF
  rw [if_pos (by rw [tiesE_pairs hp]; exact h)]
  cases hs : sidesN n.toNat l' with
  | none => exact .inr rfl
  | some s =>
    obtain ⟨h1, h2⟩ := sidesN_some hs
    have a1 := leastK_le l (2 ^ n.toNat) s h1
    have a2 := wrong_le hp h2
    exact .inl (by omega)
end Go.Proofs.Ytaegldcifhgnmaa.A

/- Paths and rings: a set with which all ties are calm, or an odd ring (plain). -/
namespace Go.Proofs.Ytaegldcifhgnmaa.B
open Go.Proofs.Ytaegldcifhgnmaa.A
open Go.RowKit Go.Proofs.YtaegldcifhgnmaaW.PrintWords Go.Proofs.YtaegldcifhgnmaaW.PrintMore
section
variable {l : List S39}
/-! ### calm ties -/
theorem other_cross {t : S39} (h0 : 0 ≤ t.f0) (h1 : t.f0 < t.f1) {a b : Nat} (h : otherN t a = some b) (s : Nat) : crossB t s = (s.testBit a != s.testBit b) := by
  have hp := other_parts h0 h1 h
  have ha := hasB_iff.mp hp.1
  have hb := hasB_iff.mp hp.2.1
  unfold crossB
  by_cases e : t.f0.toNat = a
  · have : t.f1.toNat = b := by omega
    rw [e, this]
  · have e1 : t.f1.toNat = a := by omega
    have e2 : t.f0.toNat = b := by omega
    rw [e1, e2]
    cases s.testBit a <;> cases s.testBit b <;> rfl
theorem other_swap {t : S39} (h0 : 0 ≤ t.f0) (h1 : t.f0 < t.f1) {a b : Nat} (h : otherN t a = some b) : otherN t b = some a := by
  have hp := other_parts h0 h1 h
  exact other_has h1 hp.2.1 hp.1 (Ne.symm hp.2.2)
theorem par_add (a b : Nat) : ((a + b) % 2 == 1) = ((a % 2 == 1) != (b % 2 == 1)) := by
  have ha : a % 2 = 0 ∨ a % 2 = 1 := by omega
  have hb : b % 2 = 0 ∨ b % 2 = 1 := by omega
  rcases ha with ha | ha <;> rcases hb with hb | hb
  all_goals rw [Nat.add_mod, ha, hb]; decide
theorem par_fe (t : S39) : (feT t % 2 == 1) = t.f2 := by
  unfold feT
  cases t.f2 <;> rfl
theorem WT_par (hg : goodT l) {s : Nat} (hc : ∀ j, inR l j → wrB (tieA l j) s = false) {fr : Nat} : ∀ (js : List Int) (at_ met : Nat), WT l fr at_ met js → (feL l js % 2 == 1) = (s.testBit at_ != s.testBit fr)
  | [], at_, _, h => by
    rw [WT] at h
    rw [h, bne_self_eq_false]; rfl
  | j :: js, at_, met, ⟨hj, v, h1, _, h3⟩ => by
    have gj := tieA_good hg hj
    have ih := WT_par hg hc js v _ h3
    have hcr := other_cross gj.1 gj.2.1 h1 s
    have hw := hc j hj
    unfold wrB at hw
    rw [feL, par_add, par_fe, ih]
    rw [hcr] at hw
    revert hw
    cases (tieA l j).f2 <;> cases s.testBit at_ <;> cases s.testBit v <;> cases s.testBit fr <;> decide
theorem ring_even (hg : goodT l) {s : Nat} (hc : ∀ j, inR l j → wrB (tieA l j) s = false) {x : List Int} (h : Ringy l x) : feL l x % 2 = 0 := by
  obtain ⟨fr, _, hw⟩ := h
  have := WT_par hg hc x _ _ hw
  rw [bne_self_eq_false, beq_eq_false_iff_ne] at this
  omega

/-! ### lists without a number twice -/
theorem nodup_le : ∀ (n : Nat) (L : List Nat), L.Nodup → (∀ x ∈ L, x < n) → L.length ≤ n
  | 0, L, _, h => by
    cases L with
    | nil => exact Nat.le_refl _
    | cons x L => exact absurd (h x List.mem_cons_self) (Nat.not_lt_zero x)
  | n + 1, L, hn, h => by
    by_cases hm : n ∈ L
    · have h1 := nodup_le n (L.erase n) (hn.erase n) (fun x hx => by
        have h2 := (List.Nodup.mem_erase_iff hn).mp hx
        have := h x h2.2
        have := h2.1
        omega)
      rw [List.length_erase_of_mem hm] at h1
      omega
    · have := nodup_le n L hn (fun x hx => by
        have h1 := h x hx
        have h2 : x ≠ n := fun e => hm (e ▸ hx)
        omega)
      omega
theorem WT_vs {n : Nat} (hg : goodT l) (hn : ∀ t ∈ l, t.f1 < n) {fr : Nat} : ∀ (js : List Int) (at_ met : Nat), WT l fr at_ met js → ∃ vs : List Nat, vs.length = js.length ∧ vs.Nodup ∧ ∀ v ∈ vs, v < n ∧ met.testBit v = false
  | [], _, _, _ => ⟨[], rfl, List.nodup_nil, fun v hv => absurd hv (by simp)⟩
  | j :: js, at_, met, ⟨hj, v, h1, h2, h3⟩ => by
    obtain ⟨vs, h4, h5, h6⟩ := WT_vs hg hn js v _ h3
    have gj := tieA_good hg hj
    have hp := other_parts gj.1 gj.2.1 h1
    have hv := hasB_iff.mp hp.2.1
    have hb : (tieA l j).f1 < n := hn _ (getD_mem z39 (by have := hj.1; have := hj.2; omega))
    refine ⟨v :: vs, by rw [List.length_cons, List.length_cons, h4], List.nodup_cons.mpr ⟨fun hm => ?_, h5⟩, fun u hu => ?_⟩
    · have := (h6 v hm).2
      rw [or_bit, Bool.or_eq_false_iff, decide_eq_false_iff_not] at this
      exact this.2 rfl
    · rcases List.mem_cons.mp hu with e | e
      · rw [e]; exact ⟨by omega, h2⟩
      · have := h6 u e
        rw [or_bit, Bool.or_eq_false_iff] at this
        exact ⟨this.1, this.2.1⟩
theorem ring_len {n : Nat} (hg : goodT l) (hn : ∀ t ∈ l, t.f1 < n) {x : List Int} (h : Ringy l x) : x.length ≤ n := by
  obtain ⟨fr, _, hw⟩ := h
  obtain ⟨vs, h1, h2, h3⟩ := WT_vs hg hn x _ _ hw
  rw [← h1]
  exact nodup_le n vs h2 (fun v hv => (h3 v hv).1)

/-! ### paths -/
def endV (a : Nat) : List (Int × Nat) → Nat
  | [] => a
  | (_, v) :: _ => v
def vertsV (a : Nat) (p : List (Int × Nat)) : List Nat := p.map Prod.snd ++ [a]
def IsPath (l : List S39) (ok : Int → Prop) (a : Nat) : List (Int × Nat) → Prop
  | [] => True
  | (j, v) :: p => (inR l j ∧ ok j) ∧ otherN (tieA l j) (endV a p) = some v ∧ v ∉ vertsV a p ∧ IsPath l ok a p
def Reach (l : List S39) (ok : Int → Prop) (a y : Nat) : Prop := ∃ p, IsPath l ok a p ∧ endV a p = y
variable {ok : Int → Prop} {a : Nat}
theorem end_mem (p : List (Int × Nat)) : endV a p ∈ vertsV a p := by
  cases p with
  | nil => simp [endV, vertsV]
  | cons q p => simp [endV, vertsV]
theorem path_to {y : Nat} : ∀ p, IsPath l ok a p → y ∈ vertsV a p → Reach l ok a y
  | [], _, hy => by
    have : y = a := by simpa [vertsV] using hy
    exact ⟨[], trivial, this.symm⟩
  | (j, v) :: p, h, hy => by
    have hy' : y = v ∨ y ∈ vertsV a p := by simpa [vertsV] using hy
    rcases hy' with e | e
    · exact ⟨(j, v) :: p, h, e.symm⟩
    · exact path_to p h.2.2.2 e
theorem reach_self : Reach l ok a a := ⟨[], trivial, rfl⟩
theorem reach_step {x y : Nat} {j : Int} (h : Reach l ok a x) (hj : inR l j) (hk : ok j) (ho : otherN (tieA l j) x = some y) : Reach l ok a y := by
  obtain ⟨p, hp, rfl⟩ := h
  by_cases hy : y ∈ vertsV a p
  · exact path_to p hp hy
  · exact ⟨(j, y) :: p, ⟨⟨hj, hk⟩, ho, hy, hp⟩, rfl⟩
theorem path_par (hg : goodT l) {s : Nat} (hc : ∀ j, inR l j → ok j → wrB (tieA l j) s = false) : ∀ p, IsPath l ok a p → (feL l (p.map Prod.fst) % 2 == 1) = (s.testBit (endV a p) != s.testBit a)
  | [], _ => by
    show (0 % 2 == 1) = (s.testBit a != s.testBit a)
    rw [bne_self_eq_false]; rfl
  | (j, v) :: p, ⟨⟨hj, hk⟩, h1, _, h3⟩ => by
    have gj := tieA_good hg hj
    have ih := path_par hg hc p h3
    have hcr := other_cross gj.1 gj.2.1 h1 s
    have hw := hc j hj hk
    unfold wrB at hw
    rw [hcr] at hw
    rw [List.map_cons, feL, par_add, par_fe, ih]
    show _ = (s.testBit v != s.testBit a)
    revert hw
    cases (tieA l j).f2 <;> cases s.testBit (endV a p) <;> cases s.testBit v <;> cases s.testBit a <;> decide
theorem path_WT (hg : goodT l) : ∀ p met, IsPath l ok a p → (∀ v ∈ vertsV a p, v ≠ endV a p → met.testBit v = false) → WT l a (endV a p) met (p.map Prod.fst)
  | [], _, _, _ => rfl
  | (j, v) :: p, met, ⟨⟨hj, _⟩, h1, h2, h3⟩, hm => by
    have gj := tieA_good hg hj
    have hne : endV a p ≠ v := fun e => h2 (by rw [← e]; exact end_mem p)
    refine ⟨hj, endV a p, other_swap gj.1 gj.2.1 h1, hm _ (by simpa [vertsV] using Or.inr (end_mem p)) hne, ?_⟩
    refine path_WT hg p _ h3 fun u hu hue => ?_
    rw [or_bit, Bool.or_eq_false_iff, decide_eq_false_iff_not]
    exact ⟨hm u (by simpa [vertsV] using Or.inr hu) (fun e => h2 (by have e2 : u = v := e; rw [← e2]; exact hu)), hue⟩
theorem path_nodup : ∀ p, IsPath l ok a p → (vertsV a p).Nodup
  | [], _ => by simp [vertsV]
  | (j, v) :: p, ⟨_, _, h2, h3⟩ => by
    show (v :: vertsV a p).Nodup
    exact List.nodup_cons.mpr ⟨h2, path_nodup p h3⟩
theorem path_lt {n : Nat} (hg : goodT l) (hn : ∀ t ∈ l, t.f1 < n) (ha : a < n) : ∀ p, IsPath l ok a p → ∀ v ∈ vertsV a p, v < n
  | [], _, v, hv => by
    have : v = a := by simpa [vertsV] using hv
    omega
  | (j, u) :: p, ⟨⟨hj, _⟩, h1, _, h3⟩, v, hv => by
    have hv' : v = u ∨ v ∈ vertsV a p := by simpa [vertsV] using hv
    rcases hv' with e | e
    · have gj := tieA_good hg hj
      have hp := other_parts gj.1 gj.2.1 h1
      have hu := hasB_iff.mp hp.2.1
      have hb : (tieA l j).f1 < n := hn _ (getD_mem z39 (by have := hj.1; have := hj.2; omega))
      omega
    · exact path_lt hg hn ha p h3 v e
theorem tie_one {n : Int} (ht : tiesE n l = 0) {i j : Int} {a b : Nat} (hi : inR l i) (hj : inR l j) (h1 : otherN (tieA l i) a = some b) (h2 : otherN (tieA l j) a = some b) : i = j := by
  have hg := tiesE_good ht
  have gi := tieA_good hg hi
  have gj := tieA_good hg hj
  have p1 := other_parts gi.1 gi.2.1 h1
  have p2 := other_parts gj.1 gj.2.1 h2
  have q1 := hasB_iff.mp p1.1
  have q2 := hasB_iff.mp p1.2.1
  have q3 := hasB_iff.mp p2.1
  have q4 := hasB_iff.mp p2.2.1
  have e0 : (tieA l i).f0 = (tieA l j).f0 := by omega
  have e1 : (tieA l i).f1 = (tieA l j).f1 := by omega
  have hpq : pairT (tieA l i) = pairT (tieA l j) := by unfold pairT; rw [e0, e1]
  have hk := (tiesE_parts ht).2.2
  unfold inR at hi hj
  by_cases hlt : i.toNat < j.toNat
  · exact absurd hpq ((okTies_parts hk (show j.toNat < l.length by omega)).2 _ hlt)
  · by_cases hgt : j.toNat < i.toNat
    · exact absurd hpq.symm ((okTies_parts hk (show i.toNat < l.length by omega)).2 _ hgt)
    · omega
/-- A path and a tie between its ends: a ring. -/
theorem ring_of_path {n : Nat} (ht : tiesE n l = 0) (hn : ∀ t ∈ l, t.f1 < n) {m : Int} {b : Nat} (hm : inR l m) (ho : otherN (tieA l m) a = some b) (p : List (Int × Nat)) (hp : IsPath l ok a p) (he : endV a p = b) (hok : ∀ j, inR l j → ok j → j ≠ m) :
    Ringy l (m :: p.map Prod.fst) ∧ 3 ≤ (m :: p.map Prod.fst).length ∧ (m :: p.map Prod.fst).length ≤ n := by
  have hg := tiesE_good ht
  have gm := tieA_good hg hm
  have hpm := other_parts gm.1 gm.2.1 ho
  have ham := hasB_iff.mp hpm.1
  have hbm : (tieA l m).f1 < n := hn _ (getD_mem z39 (by have := hm.1; have := hm.2; omega))
  have hr : Ringy l (m :: p.map Prod.fst) := by
    refine ⟨a, ?_, hm, b, ho, Nat.zero_testBit _, ?_⟩
    · show a = (tieA l m).f0.toNat ∨ a = (tieA l m).f1.toNat
      omega
    · rw [Nat.zero_or]
      have := path_WT hg p (2 ^ b) hp (fun v _ hv => by rw [tb_two, beq_eq_false_iff_ne, ← he]; exact hv)
      rwa [he] at this
  refine ⟨hr, ?_, ring_len hg hn hr⟩
  rw [List.length_cons, List.length_map]
  cases p with
  | nil => exact absurd he hpm.2.2
  | cons q p =>
    cases p with
    | nil =>
      obtain ⟨j, v⟩ := q
      obtain ⟨⟨hj, hk⟩, h1, _, _⟩ := hp
      have h1' : otherN (tieA l j) a = some b := by rw [← he]; exact h1
      exact absurd (tie_one ht hj hm h1' ho) (hok j hj hk)
    | cons q2 p => simp only [List.length_cons]; omega

/-! ### the theorem -/
theorem bits_of (P : Nat → Prop) : ∀ n, ∃ r, r < 2 ^ n ∧ ∀ v, v < n → (r.testBit v = true ↔ P v)
  | 0 => ⟨0, by decide, fun v hv => absurd hv (Nat.not_lt_zero v)⟩
  | n + 1 => by
    obtain ⟨r, h1, h2⟩ := bits_of P n
    have hlt : r < 2 ^ (n + 1) := Nat.lt_trans h1 (Nat.pow_lt_pow_right (by decide) (Nat.lt_succ_self n))
    by_cases hp : P n
    · refine ⟨r ||| 2 ^ n, or_lt hlt (Nat.pow_lt_pow_right (by decide) (Nat.lt_succ_self n)), fun v hv => ?_⟩
      rw [or_bit, Bool.or_eq_true, decide_eq_true_iff]
      by_cases e : v = n
      · subst e; exact ⟨fun _ => hp, fun _ => Or.inr rfl⟩
      · have := h2 v (by omega)
        rw [this]
        exact ⟨fun h => h.elim id (fun h => absurd h e), Or.inl⟩
    · refine ⟨r, hlt, fun v hv => ?_⟩
      by_cases e : v = n
      · subst e
        rw [tb_big h1 (Nat.le_refl _)]
        exact ⟨fun h => absurd h Bool.false_ne_true, fun h => absurd h hp⟩
      · exact h2 v (by omega)
theorem ties_lt {n : Nat} (ht : tiesE n l = 0) : ∀ t ∈ l, t.f1 < n := by
  intro t hm
  obtain ⟨i, hi, e⟩ := List.getElem_of_mem hm
  have h2 := okT_parts (okTies_parts (tiesE_parts ht).2.2 hi).1
  have hg : l.getD i z39 = t := by rw [List.getD_eq_getElem?_getD, List.getElem?_eq_getElem hi, e]; rfl
  rw [hg] at h2
  omega
theorem calm_or {n : Nat} (ht : tiesE n l = 0) (hodd : ∀ x, 3 ≤ x.length → x.length ≤ n → Ringy l x → feL l x % 2 = 0) : ∀ m, m ≤ l.length → ∃ s, s < 2 ^ n ∧ ∀ i, i < m → wrB (l.getD i z39) s = false
  | 0, _ => ⟨0, Nat.two_pow_pos n, fun i hi => absurd hi (Nat.not_lt_zero i)⟩
  | m + 1, hm => by
    obtain ⟨s, hs, hc⟩ := calm_or ht hodd m (by omega)
    have hg := tiesE_good ht
    have hn := ties_lt ht
    by_cases hw : wrB (l.getD m z39) s = false
    · exact ⟨s, hs, fun i hi => by
        by_cases e : i = m
        · rw [e]; exact hw
        · exact hc i (by omega)⟩
    · have hin : inR l (m : Int) := ⟨by omega, by omega⟩
      have hta : ∀ i : Nat, tieA l (i : Int) = l.getD i z39 := fun i => by unfold tieA; rw [Int.toNat_natCast]
      have gm := tieA_good hg hin
      obtain ⟨a, ha⟩ : ∃ a : Nat, (tieA l (m : Int)).f0 = a := ⟨_, Int.eq_natCast_toNat.mpr gm.1⟩
      obtain ⟨b, hb⟩ : ∃ b : Nat, (tieA l (m : Int)).f1 = b := ⟨_, Int.eq_natCast_toNat.mpr (by omega)⟩
      have hab : otherN (tieA l (m : Int)) a = some b := other_has gm.2.1 (hasB_iff.mpr (Or.inl ha)) (hasB_iff.mpr (Or.inr hb)) (by omega)
      have hbn : (tieA l (m : Int)).f1 < n := hn _ (getD_mem z39 (by rw [Int.toNat_natCast]; omega))
      have hcj : ∀ j, inR l j → j < (m : Int) → wrB (tieA l j) s = false := fun j hj hjm => by
        obtain ⟨i, rfl⟩ := Int.eq_ofNat_of_zero_le hj.1
        rw [hta]; exact hc i (by omega)
      by_cases hr : Reach l (fun j => j < (m : Int)) a b
      · exfalso
        obtain ⟨p, hp, he⟩ := hr
        obtain ⟨h1, h2, h3⟩ := ring_of_path ht hn hin hab p hp he (fun j _ hj e => by omega)
        have h4 := hodd _ h2 h3 h1
        have h5 := path_par hg hcj p hp
        have h6 : (feL l ((m : Int) :: p.map Prod.fst) % 2 == 1) = false := by rw [h4]; rfl
        rw [feL, par_add, par_fe, h5, he] at h6
        have h7 := other_cross gm.1 gm.2.1 hab s
        rw [← hta] at hw
        unfold wrB at hw
        rw [h7] at hw
        revert h6 hw
        cases (tieA l (m : Int)).f2 <;> cases s.testBit a <;> cases s.testBit b <;> decide
      · obtain ⟨r, hrl, hrb⟩ := bits_of (fun v => Reach l (fun j => j < (m : Int)) a v) n
        refine ⟨s ^^^ r, Nat.xor_lt_two_pow hs hrl, fun i hi => ?_⟩
        have hini : inR l (i : Int) := ⟨by omega, by omega⟩
        have gi := tieA_good hg hini
        obtain ⟨u, hu⟩ : ∃ u : Nat, (tieA l (i : Int)).f0 = u := ⟨_, Int.eq_natCast_toNat.mpr gi.1⟩
        obtain ⟨w, hw'⟩ : ∃ w : Nat, (tieA l (i : Int)).f1 = w := ⟨_, Int.eq_natCast_toNat.mpr (by omega)⟩
        have huw : otherN (tieA l (i : Int)) u = some w := other_has gi.2.1 (hasB_iff.mpr (Or.inl hu)) (hasB_iff.mpr (Or.inr hw')) (by omega)
        have hwn : (tieA l (i : Int)).f1 < n := hn _ (getD_mem z39 (by rw [Int.toNat_natCast]; omega))
        have hx := other_cross gi.1 gi.2.1 huw (s ^^^ r)
        have hy := other_cross gi.1 gi.2.1 huw s
        have hun : u < n := by omega
        have hwn' : w < n := by omega
        rw [← hta]
        by_cases e : i = m
        · subst e
          have eu : u = a := by omega
          have ew : w = b := by omega
          subst eu ew
          have r1 : r.testBit u = true := (hrb u hun).mpr reach_self
          have r2 : r.testBit w = false := by
            rw [← Bool.not_eq_true, hrb w hwn']; exact hr
          rw [← hta] at hw
          unfold wrB at hw ⊢
          rw [hy] at hw
          rw [hx, Nat.testBit_xor, Nat.testBit_xor, r1, r2]
          revert hw
          cases (tieA l (i : Int)).f2 <;> cases s.testBit u <;> cases s.testBit w <;> decide
        · have him : (i : Int) < (m : Int) := by omega
          have hci := hcj _ hini him
          have r12 : r.testBit u = r.testBit w := by
            rw [Bool.eq_iff_iff, hrb u hun, hrb w hwn']
            exact ⟨fun h => reach_step h hini him huw, fun h => reach_step h hini him (other_swap gi.1 gi.2.1 huw)⟩
          unfold wrB at hci ⊢
          rw [hy] at hci
          rw [hx, Nat.testBit_xor, Nat.testBit_xor, r12]
          revert hci
          cases (tieA l (i : Int)).f2 <;> cases s.testBit u <;> cases s.testBit w <;> cases r.testBit w <;> decide
end
end Go.Proofs.Ytaegldcifhgnmaa.B

/- What find's answers say of rings; what Sides says (plain). -/
namespace Go.Proofs.Ytaegldcifhgnmaa.B
open Go.Proofs.Ytaegldcifhgnmaa.A
open Go.RowKit Go.Proofs.YtaegldcifhgnmaaW.PrintWords Go.Proofs.YtaegldcifhgnmaaW.PrintMore

theorem firstN_hit_spec {α : Type} {F : Nat → Option α} : ∀ {k x}, firstN F k = some x → ∃ i, i < k ∧ F i = some x ∧ ∀ j, j < i → F j = none
  | 0, x, h => by cases h
  | k + 1, x, h => by
    rw [firstN] at h
    cases e : firstN F k with
    | some y =>
      rw [e] at h
      obtain ⟨i, hi, h2, h3⟩ := firstN_hit_spec e
      exact ⟨i, by omega, by rw [h2]; exact h, h3⟩
    | none =>
      rw [e] at h
      have hno : ∀ j, j < k → F j = none := by
        have gen : ∀ m, firstN F m = none → ∀ j, j < m → F j = none := by
          intro m
          induction m with
          | zero => intro _ j hj; omega
          | succ m ih =>
            intro hm j hj
            rw [firstN] at hm
            cases e2 : firstN F m with
            | some y => rw [e2] at hm; cases hm
            | none =>
              rw [e2] at hm
              by_cases hjm : j = m
              · rw [hjm]; exact hm
              · exact ih e2 j (by omega)
        exact gen k e
      exact ⟨k, by omega, h, hno⟩
theorem firstN_none_spec {α : Type} {F : Nat → Option α} : ∀ {m}, firstN F m = none → ∀ j, j < m → F j = none
  | 0, _, j, hj => by omega
  | m + 1, hm, j, hj => by
    rw [firstN] at hm
    cases e2 : firstN F m with
    | some y => rw [e2] at hm; cases hm
    | none =>
      rw [e2] at hm
      by_cases hjm : j = m
      · rw [hjm]; exact hm
      · exact firstN_none_spec e2 j (by omega)
section
variable {l : List S39}
theorem Ringy_three {x : List Int} {fe : Int} (h : isRingR l x = (fe, true)) : 3 ≤ x.length := by
  unfold isRingR at h
  by_cases h3 : x.length < 3
  · rw [if_pos h3] at h; cases h
  · omega
theorem find_none {one : Bool} {p : Nat → Bool} (hp : ∀ g : Nat, p g = askB one (g : Int)) {n : Nat} (ht : tiesE n l = 0) (h : findF p l n = none) {x : List Int} (h3 : 3 ≤ x.length) (hr : Ringy l x) : askB one (feL l x) = false := by
  rw [find_short (tiesE_good ht) p one hp] at h
  have hn := ring_len (tiesE_good ht) (ties_lt ht) hr
  have h1 := firstN_none_spec h x.length (by omega)
  have h2 := sizeR_least (tiesE_good ht) one h3
  rw [h1] at h2
  have := h2 x
  rw [← Bool.not_eq_true]
  exact fun h4 => this ⟨rfl, hr, h4⟩
theorem find_some {one : Bool} {p : Nat → Bool} (hp : ∀ g : Nat, p g = askB one (g : Int)) {n : Nat} (ht : tiesE n l = 0) {r : List Int} (h : findF p l n = some r) : 3 ≤ r.length ∧ r.length ≤ n ∧ Ringy l r ∧ askB one (feL l r) = true ∧ ∀ x, 3 ≤ x.length → Ringy l x → askB one (feL l x) = true → r.length < x.length ∨ r.length = x.length ∧ lessB x r = false := by
  rw [find_short (tiesE_good ht) p one hp] at h
  obtain ⟨k, hk, h1, h2⟩ := firstN_hit_spec h
  have h3 : 3 ≤ k := by
    unfold sizeR at h1
    by_cases h3 : 3 ≤ k
    · exact h3
    · rw [if_neg h3] at h1; cases h1
  have hl := sizeR_least (tiesE_good ht) one h3
  rw [h1] at hl
  obtain ⟨⟨e1, e2, e3⟩, e4⟩ := hl
  refine ⟨by omega, by omega, e2, e3, fun x hx hr ha => ?_⟩
  by_cases hlt : r.length < x.length
  · exact Or.inl hlt
  · right
    have hge : k ≤ x.length := by
      rw [← Nat.not_lt]
      intro hlt2
      have h5 := h2 x.length hlt2
      have h6 := sizeR_least (tiesE_good ht) one hx
      rw [h5] at h6
      exact h6 x ⟨rfl, hr, ha⟩
    have he : x.length = k := by omega
    refine ⟨by omega, ?_⟩
    have := e4 x ⟨he, hr, ha⟩
    have hs := cmpL_swap r x
    exact decide_eq_false (by omega)
theorem isRing_pair {x : List Int} (h : (isRingR l x).2 = true) : Ringy l x ∧ 3 ≤ x.length ∧ (isRingR l x).1 = (feL l x : Int) := by
  have h3 : 3 ≤ x.length := Ringy_three (fe := (isRingR l x).1) (Prod.ext rfl h)
  exact ⟨(isRing_iff h3).mp h, h3, isRing_fe h3 h⟩
theorem ringy_is {x : List Int} (h3 : 3 ≤ x.length) (h : Ringy l x) : isRingR l x = ((feL l x : Int), true) := by
  have := (isRing_iff h3).mpr h
  exact Prod.ext (isRing_fe h3 this) this
theorem odd_ask (g : Nat) : askB false (g : Int) = decide (g % 2 = 1) := by
  rw [← ask_odd]
  unfold oddB
  by_cases h : g % 2 = 1
  · rw [decide_eq_true h, h]; rfl
  · rw [decide_eq_false h, beq_eq_false_iff_ne]; exact h
/-- Harary: calm with a set, or an odd ring; never both. -/
theorem harary {n : Nat} (ht : tiesE n l = 0) : sidesN n l = none ↔ ∃ r, findF oddB l n = some r := by
  constructor
  · intro h
    cases e : findF oddB l n with
    | some r => exact ⟨r, rfl⟩
    | none =>
      exfalso
      obtain ⟨s, hs, hc⟩ := calm_or ht (fun x h3 _ hr => by
        have := find_none (one := false) ask_odd ht e h3 hr
        rw [odd_ask, decide_eq_false_iff_not] at this
        omega) l.length (Nat.le_refl _)
      have h1 := sidesN_none h s hs
      rw [wrongF_empty hc] at h1
      cases h1
  · rintro ⟨r, hr⟩
    obtain ⟨_, _, h1, h2, _⟩ := find_some (one := false) ask_odd ht hr
    cases e : sidesN n l with
    | none => rfl
    | some s =>
      exfalso
      have hs := sidesN_some e
      have hc : ∀ j, inR l j → wrB (tieA l j) s = false := fun j hj => wrongF_nil hs.2 (by have := hj.1; have := hj.2; omega)
      have := ring_even (tiesE_good ht) hc h1
      rw [odd_ask, decide_eq_true_iff] at h2
      omega
end
end Go.Proofs.Ytaegldcifhgnmaa.B

/- Drovers that reach each other by some ties: classes; the groups are these (plain). -/
namespace Go.Proofs.Ytaegldcifhgnmaa.B
open Go.Proofs.Ytaegldcifhgnmaa.A
open Go.RowKit Go.Proofs.YtaegldcifhgnmaaW.PrintWords Go.Proofs.YtaegldcifhgnmaaW.PrintMore
section
variable {q : S39 → Bool} {l : List S39} {n : Nat}
/-- A set that no such tie leaves. -/
def Clo (q : S39 → Bool) (l : List S39) (S : Nat → Prop) : Prop := ∀ t ∈ l, q t = true → (S t.f0.toNat ↔ S t.f1.toNat)
/-- Reached by such ties. -/
def Conn (q : S39 → Bool) (l : List S39) (a b : Nat) : Prop := ∀ S : Nat → Prop, Clo q l S → S a → S b
theorem conn_refl (a : Nat) : Conn q l a a := fun _ _ h => h
theorem conn_trans {a b c : Nat} (h : Conn q l a b) (h' : Conn q l b c) : Conn q l a c := fun S hS ha => h' S hS (h S hS ha)
theorem conn_symm {a b : Nat} (h : Conn q l a b) : Conn q l b a := fun S hS hb => by
  by_cases ha : S a
  · exact ha
  · exact absurd hb (h (fun v => ¬ S v) (fun t ht hq => not_congr (hS t ht hq)) ha)
theorem conn_tie {t : S39} (ht : t ∈ l) (hq : q t = true) : Conn q l t.f0.toNat t.f1.toNat := fun _ hS h => (hS t ht hq).mp h
theorem clo_conn (a : Nat) : Clo q l (Conn q l a) := fun _ ht hq => ⟨fun h => conn_trans h (conn_tie ht hq), fun h => conn_trans h (conn_symm (conn_tie ht hq))⟩
/-- Of a set as a number. -/
def CloN (q : S39 → Bool) (l : List S39) (x : Nat) : Prop := Clo q l fun v => x.testBit v = true
theorem conn_lt (hl : okN n l) {a b : Nat} (h : Conn q l a b) (ha : a < n) : b < n := by
  refine h (fun v => v < n) (fun t ht _ => ?_) ha
  have := hl t ht
  exact ⟨fun _ => by omega, fun _ => by omega⟩

/-! ### spread -/
theorem pairB_bit (t : S39) (i : Nat) : (pairB t).testBit i = (decide (i = t.f0.toNat) || decide (i = t.f1.toNat)) := by
  unfold pairB
  rw [or_bit, tb_two]; rfl
theorem addT_bit (t : S39) (x i : Nat) : (addT q t x).testBit i = true ↔ x.testBit i = true ∨ (q t = true ∧ (x.testBit t.f0.toNat = true ∨ x.testBit t.f1.toNat = true) ∧ (i = t.f0.toNat ∨ i = t.f1.toNat)) := by
  have hm : x &&& pairB t ≠ 0 ↔ (x.testBit t.f0.toNat = true ∨ x.testBit t.f1.toNat = true) := by
    constructor
    · intro h
      obtain ⟨i, hi⟩ := Nat.exists_testBit_of_ne_zero h
      rw [Nat.testBit_and, pairB_bit, Bool.and_eq_true, Bool.or_eq_true, decide_eq_true_iff, decide_eq_true_iff] at hi
      rcases hi.2 with e | e
      · rw [← e]; exact Or.inl hi.1
      · rw [← e]; exact Or.inr hi.1
    · intro h e
      have hz : ∀ i, (x &&& pairB t).testBit i = false := fun i => by rw [e, Nat.zero_testBit]
      rcases h with h | h
      · have := hz t.f0.toNat
        rw [Nat.testBit_and, pairB_bit, h, decide_eq_true rfl] at this
        cases this
      · have := hz t.f1.toNat
        rw [Nat.testBit_and, pairB_bit, h, decide_eq_true (p := t.f1.toNat = t.f1.toNat) rfl, Bool.or_true] at this
        cases this
  unfold addT
  by_cases h : q t = true ∧ x &&& pairB t ≠ 0
  · rw [if_pos h, Nat.testBit_or, pairB_bit, Bool.or_eq_true, Bool.or_eq_true, decide_eq_true_iff, decide_eq_true_iff]
    have := hm.mp h.2
    exact ⟨fun h' => h'.elim Or.inl fun h'' => Or.inr ⟨h.1, this, h''⟩, fun h' => h'.elim Or.inl fun h'' => Or.inr h''.2.2⟩
  · rw [if_neg h]
    exact ⟨Or.inl, fun h' => h'.elim id fun h'' => absurd ⟨h''.1, hm.mpr h''.2.1⟩ h⟩
theorem addK_mono {x : Nat} : ∀ {k m}, k ≤ m → ∀ i, (addK q l x k).testBit i = true → (addK q l x m).testBit i = true
  | k, 0, h, i, hi => by have : k = 0 := by omega
                         rw [this] at hi; exact hi
  | k, m + 1, h, i, hi => by
    by_cases e : k = m + 1
    · rw [e] at hi; exact hi
    · exact addT_sup (addK_mono (show k ≤ m by omega) i hi)
theorem ext_bits {x y : Nat} (h : ∀ i, x.testBit i = true ↔ y.testBit i = true) : x = y := Nat.eq_of_testBit_eq fun i => by rw [Bool.eq_iff_iff]; exact h i
theorem clo_of_fix {x : Nat} (h : addK q l x l.length = x) : CloN q l x := by
  intro t ht hq
  obtain ⟨k, hk, e⟩ := List.getElem_of_mem ht
  have hg : l.getD k z39 = t := by rw [List.getD_eq_getElem?_getD, List.getElem?_eq_getElem hk, e]; rfl
  have hall : ∀ m, m ≤ l.length → addK q l x m = x := fun m hm => ext_bits fun i => ⟨fun hi => by have := addK_mono hm i hi; rw [h] at this; exact this, fun hi => addK_sup hi m⟩
  have h1 := hall (k + 1) (by omega)
  rw [addK, hall k (by omega), hg] at h1
  constructor
  · intro h0
    rw [← h1]
    exact (addT_bit t x _).mpr (Or.inr ⟨hq, Or.inl h0, Or.inr rfl⟩)
  · intro h0
    rw [← h1]
    exact (addT_bit t x _).mpr (Or.inr ⟨hq, Or.inr h0, Or.inl rfl⟩)
theorem addT_fix {t : S39} {x : Nat} (h : CloN q l x) (ht : t ∈ l) : addT q t x = x := by
  refine ext_bits fun i => ⟨fun hi => ?_, addT_sup⟩
  rcases (addT_bit t x i).mp hi with h1 | ⟨h1, h2, h3⟩
  · exact h1
  · have := h t ht h1
    have h0 : x.testBit t.f0.toNat = true := h2.elim id this.mpr
    rcases h3 with e | e
    · rw [e]; exact h0
    · rw [e]; exact this.mp h0
theorem addK_fix {x : Nat} (h : CloN q l x) : ∀ k, k ≤ l.length → addK q l x k = x
  | 0, _ => rfl
  | k + 1, hk => by rw [addK, addK_fix h k (by omega)]; exact addT_fix h (getD_mem z39 (by omega))
/-- How many drovers a set has. -/
def card (n x : Nat) : Nat := ((List.range n).filter fun i => x.testBit i).length
theorem card_le (n x : Nat) : card n x ≤ n := by
  have := List.length_filter_le (fun i => x.testBit i) (List.range n)
  rw [List.length_range] at this
  exact this
theorem filter_sub {α : Type} {p p' : α → Bool} : ∀ {L : List α}, (∀ a ∈ L, p a = true → p' a = true) → (L.filter p).length ≤ (L.filter p').length ∧ ((∃ a ∈ L, p a = false ∧ p' a = true) → (L.filter p).length < (L.filter p').length)
  | [], _ => ⟨Nat.le_refl _, fun ⟨a, h, _⟩ => absurd h (by simp)⟩
  | b :: L, h => by
    obtain ⟨h1, h2⟩ := filter_sub (L := L) fun a ha => h a (List.mem_cons_of_mem b ha)
    have hb := h b List.mem_cons_self
    cases e : p b with
    | true =>
      rw [List.filter_cons_of_pos e, List.filter_cons_of_pos (hb e), List.length_cons, List.length_cons]
      refine ⟨by omega, fun ⟨a, ha, h3, h4⟩ => ?_⟩
      rcases List.mem_cons.mp ha with rfl | ha
      · rw [e] at h3; cases h3
      · have := h2 ⟨a, ha, h3, h4⟩; omega
    | false =>
      rw [List.filter_cons_of_neg (by rw [e]; decide)]
      cases e' : p' b with
      | true => rw [List.filter_cons_of_pos e', List.length_cons]; exact ⟨by omega, fun _ => by omega⟩
      | false =>
        rw [List.filter_cons_of_neg (by rw [e']; decide)]
        refine ⟨h1, fun ⟨a, ha, h3, h4⟩ => ?_⟩
        rcases List.mem_cons.mp ha with rfl | ha
        · rw [e'] at h4; cases h4
        · exact h2 ⟨a, ha, h3, h4⟩
theorem card_lt {x y : Nat} (hs : ∀ i, x.testBit i = true → y.testBit i = true) (hy : y < 2 ^ n) (hne : x ≠ y) : card n x < card n y := by
  refine (filter_sub (fun i _ => hs i)).2 ?_
  have : ∃ i, y.testBit i = true ∧ x.testBit i = false := by
    refine Classical.byContradiction fun hno => hne (ext_bits fun i => ⟨hs i, fun hi => ?_⟩)
    cases e : x.testBit i with
    | true => rfl
    | false => exact absurd ⟨i, hi, e⟩ hno
  obtain ⟨i, h1, h2⟩ := this
  refine ⟨i, List.mem_range.mpr ?_, h2, h1⟩
  rw [← Nat.not_le]
  intro hi
  rw [tb_big hy hi] at h1
  cases h1
theorem spread_clo (hl : okN n l) {x : Nat} (hx : x < 2 ^ n) (h0 : x ≠ 0) : CloN q l (spread q l x n) := by
  have key : ∀ k, CloN q l (spread q l x k) ∨ k + 1 ≤ card n (spread q l x k) := by
    intro k
    induction k with
    | zero =>
      right
      have := card_lt (n := n) (x := 0) (y := x) (fun i h => by rw [Nat.zero_testBit] at h; cases h) hx (Ne.symm h0)
      show 1 ≤ card n x
      omega
    | succ k ih =>
      rw [spread]
      rcases ih with h | h
      · left; rw [addK_fix h _ (Nat.le_refl _)]; exact h
      · by_cases e : addK q l (spread q l x k) l.length = spread q l x k
        · left; rw [e]; exact clo_of_fix e
        · right
          have := card_lt (n := n) (x := spread q l x k) (y := addK q l (spread q l x k) l.length) (fun i h => addK_sup h _) (addK_lt hl (spread_lt hl hx k) _ (Nat.le_refl _)) (Ne.symm e)
          omega
  rcases key n with h | h
  · exact h
  · have := card_le n (spread q l x n)
    omega
theorem spread_conn (a : Nat) : ∀ k i, (spread q l (2 ^ a) k).testBit i = true → Conn q l a i
  | 0, i, hi => by
    rw [spread, tb_two, beq_iff_eq] at hi
    rw [hi]; exact conn_refl a
  | k + 1, i, hi => by
    have ih := spread_conn a k
    have key : ∀ m, m ≤ l.length → ∀ i, (addK q l (spread q l (2 ^ a) k) m).testBit i = true → Conn q l a i := by
      intro m
      induction m with
      | zero => exact fun _ => ih
      | succ m ihm =>
        intro hm i hi
        rw [addK] at hi
        rcases (addT_bit _ _ i).mp hi with h | ⟨h1, h2, h3⟩
        · exact ihm (by omega) i h
        · have ht := getD_mem (l := l) z39 (show m < l.length by omega)
          have hc := clo_conn (q := q) (l := l) a _ ht h1
          have h0 : Conn q l a (l.getD m z39).f0.toNat := h2.elim (ihm (by omega) _) fun h => hc.mpr (ihm (by omega) _ h)
          rcases h3 with e | e
          · rw [e]; exact h0
          · rw [e]; exact hc.mp h0
    exact key l.length (Nat.le_refl _) i hi
/-- The class of a drover, as a set. -/
def classN (q : S39 → Bool) (n : Nat) (l : List S39) (a : Nat) : Nat := spread q l (2 ^ a) n
theorem two_ne (a : Nat) : 2 ^ a ≠ 0 := by have := Nat.two_pow_pos a; omega
theorem class_bit (hl : okN n l) {a : Nat} (ha : a < n) (i : Nat) : (classN q n l a).testBit i = true ↔ Conn q l a i := by
  refine ⟨spread_conn a n i, fun h => ?_⟩
  refine h _ (spread_clo (q := q) hl (Nat.pow_lt_pow_right (by decide) ha) (two_ne a)) ?_
  exact spread_sup (by rw [tb_two]; simp) n
theorem class_lt (hl : okN n l) {a : Nat} (ha : a < n) : classN q n l a < 2 ^ n := spread_lt hl (Nat.pow_lt_pow_right (by decide) ha) n
theorem class_same (hl : okN n l) {a b : Nat} (ha : a < n) (h : Conn q l a b) : classN q n l a = classN q n l b :=
  ext_bits fun i => by rw [class_bit hl ha, class_bit hl (conn_lt hl h ha)]; exact ⟨conn_trans (conn_symm h), conn_trans h⟩

/-! ### the groups: the classes of those drovers that are the least of theirs -/
def leastB (q : S39 → Bool) (n : Nat) (l : List S39) (v : Nat) : Bool := (List.range v).all fun u => !(classN q n l v).testBit u
theorem leastB_iff (hl : okN n l) {v : Nat} (hv : v < n) : leastB q n l v = true ↔ ∀ u, u < v → ¬ Conn q l u v := by
  unfold leastB
  rw [List.all_eq_true]
  constructor
  · intro h u hu hc
    have := h u (List.mem_range.mpr hu)
    rw [(class_bit hl hv u).mpr (conn_symm hc)] at this
    cases this
  · intro h u hu
    rw [Bool.not_eq_true', ← Bool.not_eq_true]
    exact fun hc => h u (List.mem_range.mp hu) (conn_symm ((class_bit hl hv u).mp hc))
def groupsC (q : S39 → Bool) (n : Nat) (l : List S39) (k : Nat) : List Int := (((List.range' k (n - k)).filter (leastB q n l)).map fun v => ((classN q n l v : Nat) : Int))
theorem low_table2 : (List.range 256).all (fun x => x == 0 || (List.range 8).any fun i => x.testBit i && (lowB x == 2 ^ i) && (List.range i).all fun j => !x.testBit j) = true := by decide +kernel
theorem low_is {x : Nat} (h : x < 256) (h0 : x ≠ 0) : ∃ i, x.testBit i = true ∧ lowB x = 2 ^ i ∧ ∀ j, j < i → x.testBit j = false := by
  have := List.all_eq_true.1 low_table2 x (List.mem_range.2 h)
  rw [Bool.or_eq_true, beq_iff_eq] at this
  rcases this with h1 | h1
  · exact absurd h1 h0
  · obtain ⟨i, _, hi⟩ := List.any_eq_true.1 h1
    rw [Bool.and_eq_true, Bool.and_eq_true, beq_iff_eq] at hi
    refine ⟨i, hi.1.1, hi.1.2, fun j hj => ?_⟩
    have := List.all_eq_true.1 hi.2 j (List.mem_range.2 hj)
    simpa using this
theorem range'_skip {p : Nat → Bool} : ∀ {d k m : Nat}, k ≤ m → (∀ j, k ≤ j → j < m → p j = false) → (List.range' k (d + (m - k))).filter p = (List.range' m d).filter p := by
  intro d k m hkm h
  obtain ⟨e, rfl⟩ : ∃ e, m = k + e := ⟨m - k, by omega⟩
  induction e generalizing k with
  | zero => rw [Nat.add_zero, Nat.sub_self, Nat.add_zero]
  | succ e ih =>
    have e1 : d + (k + (e + 1) - k) = (d + (k + 1 + e - (k + 1))) + 1 := by omega
    rw [e1, List.range'_succ, List.filter_cons_of_neg (by rw [h k (Nat.le_refl _) (by omega)]; decide), ih (by omega) fun j h1 h2 => h j (by omega) (by omega)]
    rw [show k + (e + 1) = k + 1 + e by omega]
theorem groups_left (h8 : n ≤ 8) (hl : okN n l) : ∀ f left k, left < 2 ^ n → left ≤ f → k ≤ n → CloN q l left → (∀ v, v < n → (left.testBit v = true ↔ k ≤ v ∧ ∀ u, u < k → ¬ Conn q l u v)) → groupsL q n l f left = groupsC q n l k := by
  intro f
  induction f with
  | zero =>
    intro left k h1 h2 hk _ h4
    have : left = 0 := by omega
    subst this
    rw [groupsL]
    unfold groupsC
    rw [List.filter_eq_nil_iff.mpr]
    · rfl
    · intro v hv hle
      obtain ⟨h5, h6⟩ := List.mem_range'_1.mp hv
      have hvn : v < n := by omega
      have := (h4 v hvn).mpr ⟨h5, fun u hu => (leastB_iff hl hvn).mp hle u (by omega)⟩
      rw [Nat.zero_testBit] at this
      cases this
  | succ f ih =>
    intro left k h1 h2 hk h3 h4
    rw [groupsL]
    by_cases h0 : left = 0
    · subst h0
      rw [if_pos rfl]
      unfold groupsC
      rw [List.filter_eq_nil_iff.mpr]
      · rfl
      · intro v hv hle
        obtain ⟨h5, h6⟩ := List.mem_range'_1.mp hv
        have hvn : v < n := by omega
        have := (h4 v hvn).mpr ⟨h5, fun u hu => (leastB_iff hl hvn).mp hle u (by omega)⟩
        rw [Nat.zero_testBit] at this
        cases this
    · rw [if_neg h0]
      obtain ⟨a, ha, hlow, hno⟩ := low_is (Nat.lt_of_lt_of_le h1 (pow8 h8)) h0
      have han : a < n := by
        rw [← Nat.not_le]; intro h; rw [tb_big h1 h] at ha; cases ha
      obtain ⟨hka, hac⟩ := (h4 a han).mp ha
      have hleast : leastB q n l a = true := (leastB_iff hl han).mpr fun u hu hc => by
        by_cases huk : u < k
        · exact hac u huk hc
        · have := hno u hu
          have h6 : left.testBit u = true := conn_symm hc (fun v => left.testBit v = true) h3 ha
          rw [this] at h6; cases h6
      have hcl : spread q l (lowB left) n = classN q n l a := by rw [hlow]; rfl
      have hb : ∀ i, (less left (classN q n l a)).testBit i = true ↔ left.testBit i = true ∧ ¬ Conn q l a i := fun i => by
        rw [tb_less, Bool.and_eq_true, Bool.not_eq_true', ← Bool.not_eq_true, class_bit hl han]
      have hdec : less left (classN q n l a) < left := less_dec ha ((class_bit hl han a).mpr (conn_refl a))
      have e : groupsC q n l k = ((classN q n l a : Nat) : Int) :: groupsC q n l (a + 1) := by
        unfold groupsC
        rw [show n - k = (n - a) + (a - k) by omega, range'_skip hka, show n - a = (n - (a + 1)) + 1 by omega, List.range'_succ, List.filter_cons_of_pos hleast, List.map_cons]
        intro j hj1 hj2
        rw [← Bool.not_eq_true, leastB_iff hl (by omega)]
        intro hle
        have := (h4 j (by omega)).mpr ⟨hj1, fun u hu => hle u (by omega)⟩
        rw [hno j hj2] at this
        cases this
      rw [hcl, e]
      congr 1
      refine ih _ (a + 1) (by omega) (by omega) (by omega) ?_ fun v hv => ?_
      · intro t ht hq
        have g1 := h3 t ht hq
        have g2 := clo_conn (q := q) (l := l) a t ht hq
        show (less left _).testBit _ = true ↔ (less left _).testBit _ = true
        rw [hb, hb]
        exact and_congr g1 (not_congr g2)
      · rw [hb, h4 v hv]
        constructor
        · rintro ⟨⟨h5, h6⟩, h7⟩
          refine ⟨?_, fun u hu hc => ?_⟩
          · rw [← Nat.not_lt]; intro h8
            by_cases e1 : v = a
            · rw [e1] at h7; exact h7 (conn_refl a)
            · have := hno v (by omega)
              rw [(h4 v hv).mpr ⟨h5, h6⟩] at this; cases this
          · by_cases huk : u < k
            · exact h6 u huk hc
            · by_cases e1 : u = a
              · rw [e1] at hc; exact h7 hc
              · have h8 := hno u (by omega)
                have h9 : left.testBit u = true := conn_symm hc (fun v => left.testBit v = true) h3 ((h4 v hv).mpr ⟨h5, h6⟩)
                rw [h8] at h9; cases h9
        · rintro ⟨h5, h6⟩
          exact ⟨⟨by omega, fun u hu => h6 u (by omega)⟩, h6 a (by omega)⟩
theorem groups_eq (h8 : n ≤ 8) (hl : okN n l) : groupsF q n l = groupsC q n l 0 := by
  have hp := Nat.two_pow_pos n
  refine groups_left h8 hl _ _ 0 (by omega) (by omega) (Nat.zero_le _) ?_ fun v hv => ?_
  · intro t ht _
    have := hl t ht
    show (2 ^ n - 1).testBit _ = true ↔ (2 ^ n - 1).testBit _ = true
    rw [Nat.testBit_two_pow_sub_one, Nat.testBit_two_pow_sub_one, decide_eq_true_iff, decide_eq_true_iff]
    exact ⟨fun _ => by omega, fun _ => by omega⟩
  · rw [Nat.testBit_two_pow_sub_one, decide_eq_true_iff]
    exact ⟨fun _ => ⟨Nat.zero_le _, fun u hu => absurd hu (Nat.not_lt_zero u)⟩, fun _ => hv⟩
theorem groups_mem (h8 : n ≤ 8) (hl : okN n l) {g : Int} : g ∈ groupsF q n l ↔ ∃ v, v < n ∧ leastB q n l v = true ∧ g = ((classN q n l v : Nat) : Int) := by
  rw [groups_eq h8 hl]
  unfold groupsC
  rw [List.mem_map]
  constructor
  · rintro ⟨v, hv, e⟩
    obtain ⟨h1, h2⟩ := List.mem_filter.mp hv
    have := (List.mem_range'_1.mp h1).2
    exact ⟨v, by omega, h2, e.symm⟩
  · rintro ⟨v, hv, h, e⟩
    exact ⟨v, List.mem_filter.mpr ⟨List.mem_range'_1.mpr ⟨Nat.zero_le _, by omega⟩, h⟩, e.symm⟩
/-- Each class has a least drover. -/
theorem least_of (hl : okN n l) {a : Nat} (ha : a < n) : ∃ v, v ≤ a ∧ leastB q n l v = true ∧ Conn q l v a := by
  induction a using Nat.strongRecOn with
  | _ a ih =>
    by_cases h : leastB q n l a = true
    · exact ⟨a, Nat.le_refl _, h, conn_refl a⟩
    · rw [leastB_iff hl ha] at h
      have : ∃ u, u < a ∧ Conn q l u a := Classical.byContradiction fun hno => h fun u hu hc => hno ⟨u, hu, hc⟩
      obtain ⟨u, hu, hc⟩ := this
      obtain ⟨v, h1, h2, h3⟩ := ih u hu (by omega)
      exact ⟨v, by omega, h2, conn_trans h3 hc⟩
theorem groups_has (h8 : n ≤ 8) (hl : okN n l) {a b : Nat} (ha : a < n) : (∃ g ∈ groupsF q n l, g.toNat.testBit a = true ∧ g.toNat.testBit b = true) ↔ Conn q l a b := by
  constructor
  · rintro ⟨g, hg, h1, h2⟩
    obtain ⟨v, hv, _, rfl⟩ := (groups_mem h8 hl).mp hg
    rw [Int.toNat_natCast, class_bit hl hv] at h1 h2
    exact conn_trans (conn_symm h1) h2
  · intro h
    obtain ⟨v, h1, h2, h3⟩ := least_of (q := q) hl ha
    refine ⟨_, (groups_mem h8 hl).mpr ⟨v, by omega, h2, rfl⟩, ?_, ?_⟩
    · rw [Int.toNat_natCast, class_bit hl (by omega)]; exact h3
    · rw [Int.toNat_natCast, class_bit hl (by omega)]; exact conn_trans h3 h
end
end Go.Proofs.Ytaegldcifhgnmaa.B

/- Davis: clans that fit, or a ring with just one feud (plain). -/
namespace Go.Proofs.Ytaegldcifhgnmaa.B
open Go.Proofs.Ytaegldcifhgnmaa.A
open Go.RowKit Go.Proofs.YtaegldcifhgnmaaW.PrintWords Go.Proofs.YtaegldcifhgnmaaW.PrintMore
section
variable {q : S39 → Bool} {l : List S39} {n : Nat}
theorem okN_ties (ht : tiesE n l = 0) : okN n l := fun t htm => by
  have h1 := tiesE_good ht t htm
  have h2 := ties_lt ht t htm
  omega
theorem conn_other (hg : goodT l) {j : Int} (hj : inR l j) (hq : q (tieA l j) = true) {a b : Nat} (h : otherN (tieA l j) a = some b) : Conn q l a b := by
  have gj := tieA_good hg hj
  have hm : tieA l j ∈ l := getD_mem z39 (by unfold inR at hj; omega)
  have hp := other_parts gj.1 gj.2.1 h
  have ha := hasB_iff.mp hp.1
  have hb := hasB_iff.mp hp.2.1
  have hc := conn_tie (q := q) hm hq
  rcases ha with ha | ha <;> rcases hb with hb | hb
  · exact absurd (by omega) hp.2.2
  · have e1 : (tieA l j).f0.toNat = a := by omega
    have e2 : (tieA l j).f1.toNat = b := by omega
    rw [e1, e2] at hc; exact hc
  · have e1 : (tieA l j).f1.toNat = a := by omega
    have e2 : (tieA l j).f0.toNat = b := by omega
    rw [e1, e2] at hc; exact conn_symm hc
  · exact absurd (by omega) hp.2.2
theorem other_ends {t : S39} (h0 : 0 ≤ t.f0) (h1 : t.f0 < t.f1) : otherN t t.f0.toNat = some t.f1.toNat :=
  other_has h1 (hasB_iff.mpr (Or.inl (by omega))) (hasB_iff.mpr (Or.inr (by omega))) (by omega)
theorem reach_conn (hg : goodT l) {a b : Nat} (h : Conn q l a b) : Reach l (fun j => q (tieA l j) = true) a b := by
  refine h _ (fun t ht hq => ?_) reach_self
  obtain ⟨k, hk, e⟩ := List.getElem_of_mem ht
  have hin : inR l (k : Int) := ⟨by omega, by omega⟩
  have hta : tieA l (k : Int) = t := by unfold tieA; rw [Int.toNat_natCast, List.getD_eq_getElem?_getD, List.getElem?_eq_getElem hk, e]; rfl
  have gt := hg t ht
  have ho := other_ends gt.1 gt.2.1
  rw [← hta] at ho gt hq
  rw [hta] at ho
  have ho' : otherN (tieA l (k : Int)) t.f0.toNat = some t.f1.toNat := by rw [hta]; exact ho
  exact ⟨fun h => reach_step h hin hq ho', fun h => reach_step h hin hq (other_swap gt.1 gt.2.1 ho')⟩
theorem path_fe {ok : Int → Prop} (hok : ∀ j, ok j → (tieA l j).f2 = false) {a : Nat} : ∀ p, IsPath l ok a p → feL l (p.map Prod.fst) = 0
  | [], _ => rfl
  | (j, v) :: p, ⟨⟨_, hk⟩, _, _, h3⟩ => by
    rw [List.map_cons, feL, path_fe hok p h3]
    unfold feT
    rw [hok j hk]; rfl
theorem WT_zero (hg : goodT l) {fr : Nat} : ∀ (js : List Int) (at_ met : Nat), WT l fr at_ met js → feL l js = 0 → Conn friendB l at_ fr
  | [], at_, _, h, _ => by rw [WT] at h; rw [h]; exact conn_refl fr
  | j :: js, at_, met, ⟨hj, v, h1, _, h3⟩, hf => by
    rw [feL] at hf
    have hfr : friendB (tieA l j) = true := by
      unfold friendB
      cases e : (tieA l j).f2 with
      | false => rfl
      | true => unfold feT at hf; rw [e] at hf; simp at hf
    exact conn_trans (conn_other hg hj hfr h1) (WT_zero hg js v _ h3 (by omega))
theorem WT_one (hg : goodT l) {fr : Nat} : ∀ (js : List Int) (at_ met : Nat), WT l fr at_ met js → feL l js = 1 → ∃ j u v, inR l j ∧ (tieA l j).f2 = true ∧ otherN (tieA l j) u = some v ∧ Conn friendB l at_ u ∧ Conn friendB l v fr
  | [], _, _, _, hf => by rw [feL] at hf; cases hf
  | j :: js, at_, met, ⟨hj, v, h1, _, h3⟩, hf => by
    rw [feL] at hf
    cases e : (tieA l j).f2 with
    | true =>
      have : feT (tieA l j) = 1 := by unfold feT; rw [e]; rfl
      exact ⟨j, at_, v, hj, e, h1, conn_refl _, WT_zero hg js v _ h3 (by omega)⟩
    | false =>
      have h0 : feT (tieA l j) = 0 := by unfold feT; rw [e]; rfl
      obtain ⟨j', u, v', h4, h5, h6, h7, h8⟩ := WT_one hg js v _ h3 (by omega)
      have hfr : friendB (tieA l j) = true := by unfold friendB; rw [e]; rfl
      exact ⟨j', u, v', h4, h5, h6, conn_trans (conn_other hg hj hfr h1) h7, h8⟩
/-- A feud within a clan. -/
theorem clash_iff (ht : tiesE n l = 0) : clashB l (sortI (groupsF friendB n l)) l.length = true ↔ ∃ i, i < l.length ∧ (l.getD i z39).f2 = true ∧ Conn friendB l (l.getD i z39).f0.toNat (l.getD i z39).f1.toNat := by
  have hl := okN_ties ht
  have h8 : n ≤ 8 := by have := (tiesE_parts ht).1; omega
  unfold clashB
  rw [List.any_eq_true]
  constructor
  · rintro ⟨i, hi, h⟩
    rw [Bool.and_eq_true, List.any_eq_true] at h
    obtain ⟨h1, g, hg, h2⟩ := h
    have hi := List.mem_range.mp hi
    have := hl _ (getD_mem z39 hi)
    unfold bothB at h2
    rw [Bool.and_eq_true] at h2
    exact ⟨i, hi, h1, (groups_has h8 hl (by omega)).mp ⟨g, sortI_mem.mp hg, h2.1, h2.2⟩⟩
  · rintro ⟨i, hi, h1, h2⟩
    have := hl _ (getD_mem z39 hi)
    obtain ⟨g, hg, h3, h4⟩ := (groups_has h8 hl (by omega)).mpr h2
    refine ⟨i, List.mem_range.mpr hi, ?_⟩
    rw [Bool.and_eq_true, List.any_eq_true]
    exact ⟨h1, g, sortI_mem.mpr hg, by unfold bothB; rw [h3, h4]; rfl⟩
theorem one_ask (g : Nat) : askB true (g : Int) = decide (g = 1) := by
  rw [← ask_one]
  unfold oneB
  by_cases h : g = 1
  · rw [h]; rfl
  · rw [decide_eq_false h, beq_eq_false_iff_ne]; exact h
theorem davis (ht : tiesE n l = 0) : clashB l (sortI (groupsF friendB n l)) l.length = true ↔ ∃ r, findF oneB l n = some r := by
  have hg := tiesE_good ht
  rw [clash_iff ht]
  constructor
  · rintro ⟨i, hi, h1, h2⟩
    cases e : findF oneB l n with
    | some r => exact ⟨r, rfl⟩
    | none =>
      exfalso
      have hin : inR l (i : Int) := ⟨by omega, by omega⟩
      have hta : tieA l (i : Int) = l.getD i z39 := by unfold tieA; rw [Int.toNat_natCast]
      have gi := tieA_good hg hin
      rw [← hta] at h1 h2
      have ho := other_ends gi.1 gi.2.1
      obtain ⟨p, hp, he⟩ := reach_conn hg h2
      have hfr : ∀ j, friendB (tieA l j) = true → (tieA l j).f2 = false := fun j hj => by unfold friendB at hj; simpa using hj
      obtain ⟨h3, h4, _⟩ := ring_of_path ht (ties_lt ht) hin ho p hp he (fun j _ hj ej => by rw [ej] at hj; have := hfr _ hj; rw [h1] at this; cases this)
      have h5 := find_none (one := true) ask_one ht e h4 h3
      rw [one_ask, feL, path_fe hfr p hp] at h5
      have : feT (tieA l (i : Int)) = 1 := by unfold feT; rw [h1]; rfl
      rw [this] at h5
      cases h5
  · rintro ⟨r, hr⟩
    obtain ⟨_, _, ⟨fr, _, hw⟩, h2, _⟩ := find_some (one := true) ask_one ht hr
    rw [one_ask, decide_eq_true_iff] at h2
    obtain ⟨j, u, v, h3, h4, h5, h6, h7⟩ := WT_one hg r _ _ hw h2
    have gj := tieA_good hg h3
    have huv : Conn friendB l u v := conn_symm (conn_trans h7 h6)
    have hp := other_parts gj.1 gj.2.1 h5
    have ha := hasB_iff.mp hp.1
    have hb := hasB_iff.mp hp.2.1
    have hj : j.toNat < l.length := by unfold inR at h3; omega
    refine ⟨j.toNat, hj, h4, ?_⟩
    show Conn friendB l (tieA l j).f0.toNat (tieA l j).f1.toNat
    rcases ha with ha | ha
    · have e1 : (tieA l j).f0.toNat = u := by omega
      have e2 : (tieA l j).f1.toNat = v := by omega
      rw [e1, e2]; exact huv
    · have e1 : (tieA l j).f1.toNat = u := by omega
      have e2 : (tieA l j).f0.toNat = v := by omega
      rw [e1, e2]; exact conn_symm huv
end
end Go.Proofs.Ytaegldcifhgnmaa.B

/- The law package's own small functions and the reference's Ties, as the kit's print writes them. -/
namespace Go.Proofs.Ytaegldcifhgnmaa.B
open Go.Proofs.Ytaegldcifhgnmaa.A
open Go.RowKit Go.Proofs.YtaegldcifhgnmaaW.PrintWords Go.Proofs.YtaegldcifhgnmaaW.PrintLast Go.Proofs.YtaegldcifhgnmaaW.PrintMore
section
attribute [local go_sem] max2_int min2_int max_two min_two max_three min_three max_four min_four   -- for this text's walks alone
set_option linter.unusedVariables false
set_option linter.unusedSimpArgs false
def errW : Option Int → Value
  | none => .nilIface
  | some c => .iface 0 (.int .i64 c)
theorem errW_none : errW none = .nilIface := rfl
theorem errW_some (c : Int) : errW (some c) = .iface 0 (.int .i64 c) := rfl

/-! ### drovewaylaw09_few: function 16 -/
def drovewaylaw09_few.f (l0 : List (S39)) (l1 : List Int) : Option (Bool) := if (l0.length : Int) ≤ 60 then (some (decide ((l1.length : Int) ≤ 60))) else (some false)
set_option maxHeartbeats 8000000 in
set_option maxRecDepth 100000 in
theorem drovewaylaw09_few.calls (A0 : Option Addr) (c0 : Nat) (l0 : List (S39)) (A1 : Option Addr) (c1 : Nat) (l1 : List Int) (r : Bool) (w : World) (hr0 : Kd.C k39 w A0 l0.length l0) (hc0 : l0.length ≤ c0) (hr1 : Kd.C (Kd.int .i64) w A1 l1.length l1) (hc1 : l1.length ≤ c1) (h : drovewaylaw09_few.f l0 l1 = some r) :
    Calls Try.prog 16 #[.slice A0 l0.length c0, .slice A1 l1.length c1] w fun e w' => e = .returned (.bool r) ∧ Drawn0 w w' := by
  have HR0 := Aside0.mk hr0
  have HC0 := Aside0.mk hc0
  clear hr0 hc0
  have HR1 := Aside0.mk hr1
  have HC1 := Aside0.mk hc1
  clear hr1 hc1
  have H : (if (l0.length : Int) ≤ 60 then (some (decide ((l1.length : Int) ≤ 60))) else (some false)) = some r := h
  clear h
  by_cases c3 : (l0.length : Int) ≤ 60
  · rw [if_pos c3] at H
    have c3b0 : decide ((l0.length : Int) ≤ 60) = true := decide_eq_true c3
    have c3b1 : decide (l0.length ≤ 60) = true := decide_eq_true (by omega)
    clear c3
    obtain rfl := Option.some.inj H
    go_enter Try.func16, Try.ntmps16
    go_wp2
    go_ret
    exact ⟨by first | rfl | (simp; done) | (simp [*]; done), by repeat (first | exact Drawn0.refl _ | apply Drawn0.step)⟩
  · rw [if_neg c3] at H
    have c3b0 : decide ((l0.length : Int) ≤ 60) = false := decide_eq_false c3
    have c3b1 : decide (l0.length ≤ 60) = false := decide_eq_false (by omega)
    clear c3
    obtain rfl := Option.some.inj H
    go_enter Try.func16, Try.ntmps16
    go_wp2
    go_ret
    exact ⟨by first | rfl | (simp; done) | (simp [*]; done), by repeat (first | exact Drawn0.refl _ | apply Drawn0.step)⟩

-- by hand: function 18 (feuds_Sides)

-- by hand: function 20 (feuds_Ring)

/-! ### drovewaylaw09_same: function 22 -/
def drovewaylaw09_same.l0 : Nat → List Int → List Int → Int → Option (Bool)
  | 0, _, _, _ => none
  | k + 1, x0, x1, x5 => if x5 < (x0.length : Int) then (if 0 ≤ x5 then (if x5 < (x1.length : Int) then (if (rd x0 x5) = (rd x1 x5) then (drovewaylaw09_same.l0 k x0 x1 (wrap64 (x5 + 1))) else (some false)) else (none)) else (none)) else (some true)
def drovewaylaw09_same.f (k : Nat) (l0 : List Int) (l1 : List Int) : Option (Bool) := if (l0.length : Int) = (l1.length : Int) then (drovewaylaw09_same.l0 k l0 l1 0) else (some false)
theorem drovewaylaw09_same.mono_l : ∀ k, (∀ y0 y1 y2, LeO (drovewaylaw09_same.l0 k y0 y1 y2) (drovewaylaw09_same.l0 (k + 1) y0 y1 y2))
  | 0 => fun _ _ _ r h => by simp [drovewaylaw09_same.l0] at h
  | k + 1 => by
    have ih0 := drovewaylaw09_same.mono_l k
    · intro y0 y1 y2
      unfold drovewaylaw09_same.l0
      repeat' first
      | (with_reducible exact ih0 _ _ _)
      | (with_reducible exact LeO.refl _)
      | (with_reducible exact LeO.none _)
      | (with_reducible refine LeO.ite ?_ ?_)
      | (with_reducible refine LeO.bind ?_ (fun _ => ?_))
      | exact ih0 _ _ _
      | exact LeO.none _
      | refine LeO.ite ?_ ?_
      | refine LeO.bind ?_ (fun _ => ?_)
theorem drovewaylaw09_same.mono : ∀ a0 a1 k, LeO (drovewaylaw09_same.f k a0 a1) (drovewaylaw09_same.f (k + 1) a0 a1) := by
  intro a0 a1 k
  have ih0 := drovewaylaw09_same.mono_l k
  unfold drovewaylaw09_same.f
  repeat' first
      | (with_reducible exact ih0 _ _ _)
      | (with_reducible exact LeO.refl _)
      | (with_reducible exact LeO.none _)
      | (with_reducible refine LeO.ite ?_ ?_)
      | (with_reducible refine LeO.bind ?_ (fun _ => ?_))
      | exact ih0 _ _ _
      | exact LeO.none _
      | refine LeO.ite ?_ ?_
      | refine LeO.bind ?_ (fun _ => ?_)
set_option maxHeartbeats 8000000 in
set_option maxRecDepth 100000 in
theorem drovewaylaw09_same.calls (k : Nat) (A0 : Option Addr) (c0 : Nat) (l0 : List Int) (A1 : Option Addr) (c1 : Nat) (l1 : List Int) (r : Bool) (w : World) (hr0 : Kd.C (Kd.int .i64) w A0 l0.length l0) (hc0 : l0.length ≤ c0) (hr1 : Kd.C (Kd.int .i64) w A1 l1.length l1) (hc1 : l1.length ≤ c1) (h : drovewaylaw09_same.f k l0 l1 = some r) :
    Calls Try.prog 22 #[.slice A0 l0.length c0, .slice A1 l1.length c1] w fun e w' => e = .returned (.bool r) ∧ Drawn0 w w' := by
  have HR0 := Aside0.mk hr0
  have HC0 := Aside0.mk hc0
  clear hr0 hc0
  have HR1 := Aside0.mk hr1
  have HC1 := Aside0.mk hc1
  clear hr1 hc1
  have H : (if (l0.length : Int) = (l1.length : Int) then (drovewaylaw09_same.l0 k l0 l1 0) else (some false)) = some r := h
  clear h
  by_cases c3 : (l0.length : Int) = (l1.length : Int)
  · rw [if_pos c3] at H
    have c3b0 : ((l0.length : Int) == (l1.length : Int)) = true := beq_iff_eq.mpr c3
    have c3b1 : ((l0.length : Int) != (l1.length : Int)) = false := bne_eq_false_iff_eq.mpr c3
    have c3b2 : (l0.length == l1.length) = true := by first | simpa using c3 | (simp at c3 ⊢; omega)
    clear c3
    have H' := Aside0.mk H
    clear H
    go_enter Try.func22, Try.ntmps22
    go_wp2
    repeat (go_quiet (fail); try go_wp2)
    go_loopg [5] k (fun kq v5 w' => ∃ (x5_1 : Int), v5 = .int .i64 x5_1 ∧ Aside0 (drovewaylaw09_same.l0 kq l0 l1 x5_1 = some r) ∧ Aside0 (kq ≤ k) ∧ Drawn0 w w')
    case atStart => exact ⟨(0), (by first | rfl | (simp; done) | (simp [*]; done)), H', ⟨Nat.le_refl _⟩, by repeat (first | exact Drawn0.refl _ | apply Drawn0.step)⟩
    case round =>
      clear H'
      try clear c1
      try clear c2
      try clear p2
      try clear c3
      try clear c3b0
      try clear c3b1
      try clear c3b2
      obtain ⟨x5_1, rfl, HA, HK1, ⟨m1, rfl⟩⟩ := hrel
      cases gk with
      | zero => exact absurd HA.out (by simp [drovewaylaw09_same.l0])
      | succ k1 =>
        have H := HA.out
        clear HA
        simp only [drovewaylaw09_same.l0] at H
        by_cases c4 : x5_1 < (l0.length : Int)
        · rw [if_pos c4] at H
          have c4b0 : decide (x5_1 < (l0.length : Int)) = true := decide_eq_true c4
          clear c4
          by_cases c5 : 0 ≤ x5_1
          · rw [if_pos c5] at H
            have c5b0 : decide (0 ≤ x5_1) = true := decide_eq_true c5
            clear c5
            by_cases c6 : x5_1 < (l1.length : Int)
            · rw [if_pos c6] at H
              have c6b0 : decide (x5_1 < (l1.length : Int)) = true := decide_eq_true c6
              clear c6
              by_cases c7 : (rd l0 x5_1) = (rd l1 x5_1)
              · rw [if_pos c7] at H
                have c7b0 : ((rd l0 x5_1) == (rd l1 x5_1)) = true := beq_iff_eq.mpr c7
                have c7b1 : ((rd l0 x5_1) != (rd l1 x5_1)) = false := bne_eq_false_iff_eq.mpr c7
                clear c7
                have H' := Aside0.mk H
                clear H
                have p101 : 0 ≤ (x5_1 : Int) := of_decide_eq_true (by first | (with_reducible assumption) | assumption)
                have q101 : x5_1 < (l0.length : Int) := of_decide_eq_true (by first | (with_reducible assumption) | assumption)
                obtain ⟨ad101, e101, hx101_0⟩ := Kd.at_int HR0.out x5_1 p101 q101
                cases e101
                replace p101 := eq_true p101
                replace q101 := eq_true q101
                have p102 : 0 ≤ (x5_1 : Int) := of_decide_eq_true (by first | (with_reducible assumption) | assumption)
                have q102 : x5_1 < (l1.length : Int) := of_decide_eq_true (by first | (with_reducible assumption) | assumption)
                obtain ⟨ad102, e102, hx102_0⟩ := Kd.at_int HR1.out x5_1 p102 q102
                cases e102
                replace p102 := eq_true p102
                replace q102 := eq_true q102
                go_wp2
                repeat (go_quiet (fail); try go_wp2)
                go_roundg k1
                case measure => have := HK1.out; omega
                case rel => exact ⟨(wrap64 (x5_1 + 1)), (by first | rfl | (simp; done) | (simp [*]; done)), H', ⟨by have := HK1.out; omega⟩, by repeat (first | exact Drawn0.refl _ | apply Drawn0.step)⟩
              · rw [if_neg c7] at H
                have c7b0 : ((rd l0 x5_1) == (rd l1 x5_1)) = false := beq_eq_false_iff_ne.mpr c7
                have c7b1 : ((rd l0 x5_1) != (rd l1 x5_1)) = true := bne_iff_ne.mpr c7
                obtain rfl := Option.some.inj H
                have p101 : 0 ≤ (x5_1 : Int) := of_decide_eq_true (by first | (with_reducible assumption) | assumption)
                have q101 : x5_1 < (l0.length : Int) := of_decide_eq_true (by first | (with_reducible assumption) | assumption)
                obtain ⟨ad101, e101, hx101_0⟩ := Kd.at_int HR0.out x5_1 p101 q101
                cases e101
                replace p101 := eq_true p101
                replace q101 := eq_true q101
                have p102 : 0 ≤ (x5_1 : Int) := of_decide_eq_true (by first | (with_reducible assumption) | assumption)
                have q102 : x5_1 < (l1.length : Int) := of_decide_eq_true (by first | (with_reducible assumption) | assumption)
                obtain ⟨ad102, e102, hx102_0⟩ := Kd.at_int HR1.out x5_1 p102 q102
                cases e102
                replace p102 := eq_true p102
                replace q102 := eq_true q102
                go_wp2
                repeat (go_quiet (fail); try go_wp2)
                go_ret
                exact ⟨by first | rfl | (simp; done) | (simp [*]; done), by repeat (first | exact Drawn0.refl _ | apply Drawn0.step)⟩
            · rw [if_neg c6] at H
              exact absurd H (by simp)
          · rw [if_neg c5] at H
            exact absurd H (by simp)
        · rw [if_neg c4] at H
          have c4b0 : decide (x5_1 < (l0.length : Int)) = false := decide_eq_false c4
          clear c4
          obtain rfl := Option.some.inj H
          go_wp2
          repeat (go_quiet (fail); try go_wp2)
          go_ret
          exact ⟨by first | rfl | (simp; done) | (simp [*]; done), by repeat (first | exact Drawn0.refl _ | apply Drawn0.step)⟩
  · rw [if_neg c3] at H
    have c3b0 : ((l0.length : Int) == (l1.length : Int)) = false := beq_eq_false_iff_ne.mpr c3
    have c3b1 : ((l0.length : Int) != (l1.length : Int)) = true := bne_iff_ne.mpr c3
    have c3b2 : (l0.length == l1.length) = false := by first | simpa using c3 | (simp at c3 ⊢; omega)
    obtain rfl := Option.some.inj H
    go_enter Try.func22, Try.ntmps22
    go_wp2
    repeat (go_quiet (fail); try go_wp2)
    go_ret
    exact ⟨by first | rfl | (simp; done) | (simp [*]; done), by repeat (first | exact Drawn0.refl _ | apply Drawn0.step)⟩

-- by hand: function 25 (feuds_Least)

-- by hand: function 26 (feuds_Clans)

-- by hand: function 32 (feuds_Classes)

/-! ### drovewaylaw09_three: function 45 -/
def drovewaylaw09_three.f  : Option ((List (S39))) := some (([(⟨0, 1, true⟩ : S39), (⟨0, 2, true⟩ : S39), (⟨1, 2, true⟩ : S39)] : List (S39)))
set_option maxHeartbeats 8000000 in
set_option maxRecDepth 100000 in
theorem drovewaylaw09_three.calls  (r : List (S39)) (w : World) (h : drovewaylaw09_three.f  = some r) :
    Calls Try.prog 45 #[] w fun e w' => ∃ v0_ : Value, e = .returned (v0_) ∧ Kd.R k39 39 w' w.heap.size (fun _ => True) v0_ r ∧ Below w.heap.size w w' := by
  have hu39 := Try.underlying39
  have HB := Aside0.mk (Below.refl w.heap.size w)
  have H : (some (([(⟨0, 1, true⟩ : S39), (⟨0, 2, true⟩ : S39), (⟨1, 2, true⟩ : S39)] : List (S39)))) = some r := h
  clear h
  obtain ⟨y103, hy103⟩ : ∃ y_ : List (S39), y_ = (([(⟨0, 1, true⟩ : S39), (⟨0, 2, true⟩ : S39), (⟨1, 2, true⟩ : S39)] : List (S39))) := ⟨_, rfl⟩
  replace H : (some y103) = some r := by first | (rw [hy103]; with_reducible exact H) | (have H2_ := (Option.bind_some _ _).symm.trans H; rw [hy103]; with_reducible exact H2_) | (have H2_ := (Option.bind_some _ _).symm.trans H; with_reducible exact H2_) | with_reducible exact H | (rw [hy103]; exact H) | exact H
  have Ny103 := Aside0.mk hy103
  clear hy103
  obtain rfl := Option.some.inj H
  go_enter Try.func45, Try.ntmps45
  go_wp2_with (first | ((with_reducible refine gate_dst (N := 4) rfl ?_); refine Kd.R_lit k39 _ 39 ?hg (N := 4) ?hd (xs := ([(⟨0, 1, true⟩ : S39), (⟨0, 2, true⟩ : S39), (⟨1, 2, true⟩ : S39)] : List (S39))) (inner := [.int .i64 0, .int .i64 1, .bool true, .int .i64 0, .int .i64 2, .bool true, .int .i64 1, .int .i64 2, .bool true]) (ok := fun _ => True) (okp := fun _ => True) ?hr ?hp (fun _ hk => hk) trivial (Below.refl _ _) (Nat.le_refl _) (by simp) ?_; (case hd => rfl); (case hg => rfl); (case hr => first | (go_simp; done) | (go_simp; rfl)); (case hp => exact (Reps.c3 (show Kd.M k39 _ _ _ (⟨0, 1, true⟩ : S39) [.int .i64 0, .int .i64 1, .bool true] from (k39_mkM _ _ _ (⟨0, 1, true⟩ : S39) )) (Reps.c3 (show Kd.M k39 _ _ _ (⟨0, 2, true⟩ : S39) [.int .i64 0, .int .i64 2, .bool true] from (k39_mkM _ _ _ (⟨0, 2, true⟩ : S39) )) (Reps.c3 (show Kd.M k39 _ _ _ (⟨1, 2, true⟩ : S39) [.int .i64 1, .int .i64 2, .bool true] from (k39_mkM _ _ _ (⟨1, 2, true⟩ : S39) )) (Reps.none _ _))))); intro v104 w1 ho2 hb hg_ hnew_; clear hg_ hnew_; (first | rw [← Ny103.out] at ho2 | (simp only [Int.reduceToNat] at ho2; rw [← Ny103.out] at ho2)); have n0_ := Aside0.mk (Kd.R_lower ho2 (below_size (by repeat (first | (with_reducible first | exact HB.out | apply below_alloc | apply pw_below_drewN | apply below_drew1) | exact HB.out)))); have n1_ := Aside0.mk (below_step (by repeat (first | (with_reducible first | exact HB.out | apply below_alloc | apply pw_below_drewN | apply below_drew1) | exact HB.out)) hb); clear HB; have HO105 := n0_; have HB := n1_; clear n0_ n1_; clear hb ho2))
  go_ret
  exact ⟨_, by first | rfl | (simp [errW_none, errW_some] <;> rfl) | (simp [*, errW_none, errW_some] <;> rfl), by (with_reducible repeat (first | apply Kd.R_alloc | apply Kd.R_drewN | apply Kd.R_drew)); exact HO105.out, by repeat (first | (with_reducible first | exact HB.out | apply below_alloc | apply pw_below_drewN | apply below_drew1) | exact HB.out)⟩

-- NOT PRINTED: function 17 (drovewaylaw09_alive)

-- by hand: function 30 (feuds_Same)

/-! ### drovewayref09_Ties: function 24 -/
mutual
def drovewayref09_Ties.j0 : Nat → Int → List (S39) → Bool → Option (Int)
  | 0, _, _, _ => none
  | k + 1, x0, x1, x12 => if x12 = true then (some 2) else (if (x1.length : Int) > 20 then (some 3) else (drovewayref09_Ties.l0 k x0 x1 0))
def drovewayref09_Ties.l0 : Nat → Int → List (S39) → Int → Option (Int)
  | 0, _, _, _ => none
  | k + 1, x0, x1, x5 => if x5 < (x1.length : Int) then (if 0 ≤ x5 then (if ((rd_T39 x1 x5).f0) < 0 then (drovewayref09_Ties.j2 k x0 x1 x5 true) else (if ((rd_T39 x1 x5).f0) ≥ ((rd_T39 x1 x5).f1) then (drovewayref09_Ties.j2 k x0 x1 x5 true) else (drovewayref09_Ties.j2 k x0 x1 x5 (decide (((rd_T39 x1 x5).f1) ≥ x0))))) else (none)) else (some 0)
def drovewayref09_Ties.j2 : Nat → Int → List (S39) → Int → Bool → Option (Int)
  | 0, _, _, _, _ => none
  | k + 1, x0, x1, x5, x49 => if x49 = true then (some 2) else (drovewayref09_Ties.l1 k x0 x1 x5 0)
def drovewayref09_Ties.l1 : Nat → Int → List (S39) → Int → Int → Option (Int)
  | 0, _, _, _, _ => none
  | k + 1, x0, x1, x5, x6 => if x6 < x5 then (if 0 ≤ x6 then (if x6 < (x1.length : Int) then (if 0 ≤ x5 then (if x5 < (x1.length : Int) then (if ((rd_T39 x1 x6).f0) = ((rd_T39 x1 x5).f0) then (if ((rd_T39 x1 x6).f1) = ((rd_T39 x1 x5).f1) then (some 2) else (drovewayref09_Ties.l1 k x0 x1 x5 (wrap64 (x6 + 1)))) else (drovewayref09_Ties.l1 k x0 x1 x5 (wrap64 (x6 + 1)))) else (none)) else (none)) else (none)) else (none)) else (drovewayref09_Ties.l0 k x0 x1 (wrap64 (x5 + 1)))
end
def drovewayref09_Ties.f (k : Nat) (a0 : Int) (l1 : List (S39)) : Option (Int) := if a0 < 1 then (drovewayref09_Ties.j0 k a0 l1 true) else (drovewayref09_Ties.j0 k a0 l1 (decide (a0 > 8)))
theorem drovewayref09_Ties.mono_l : ∀ k, (∀ y0 y1 y2, LeO (drovewayref09_Ties.j0 k y0 y1 y2) (drovewayref09_Ties.j0 (k + 1) y0 y1 y2)) ∧ (∀ y0 y1 y2, LeO (drovewayref09_Ties.l0 k y0 y1 y2) (drovewayref09_Ties.l0 (k + 1) y0 y1 y2)) ∧ (∀ y0 y1 y2 y3, LeO (drovewayref09_Ties.j2 k y0 y1 y2 y3) (drovewayref09_Ties.j2 (k + 1) y0 y1 y2 y3)) ∧ (∀ y0 y1 y2 y3, LeO (drovewayref09_Ties.l1 k y0 y1 y2 y3) (drovewayref09_Ties.l1 (k + 1) y0 y1 y2 y3))
  | 0 => ⟨fun _ _ _ r h => by simp [drovewayref09_Ties.j0] at h, fun _ _ _ r h => by simp [drovewayref09_Ties.l0] at h, fun _ _ _ _ r h => by simp [drovewayref09_Ties.j2] at h, fun _ _ _ _ r h => by simp [drovewayref09_Ties.l1] at h⟩
  | k + 1 => by
    obtain ⟨ih0, ih1, ih2, ih3⟩ := drovewayref09_Ties.mono_l k
    refine ⟨?_, ?_, ?_, ?_⟩
    · intro y0 y1 y2
      unfold drovewayref09_Ties.j0
      repeat' first
      | (with_reducible exact ih0 _ _ _)
      | (with_reducible exact ih1 _ _ _)
      | (with_reducible exact ih2 _ _ _ _)
      | (with_reducible exact ih3 _ _ _ _)
      | (with_reducible exact LeO.refl _)
      | (with_reducible exact LeO.none _)
      | (with_reducible refine LeO.ite ?_ ?_)
      | (with_reducible refine LeO.bind ?_ (fun _ => ?_))
      | exact ih0 _ _ _
      | exact ih1 _ _ _
      | exact ih2 _ _ _ _
      | exact ih3 _ _ _ _
      | exact LeO.none _
      | refine LeO.ite ?_ ?_
      | refine LeO.bind ?_ (fun _ => ?_)
    · intro y0 y1 y2
      unfold drovewayref09_Ties.l0
      repeat' first
      | (with_reducible exact ih0 _ _ _)
      | (with_reducible exact ih1 _ _ _)
      | (with_reducible exact ih2 _ _ _ _)
      | (with_reducible exact ih3 _ _ _ _)
      | (with_reducible exact LeO.refl _)
      | (with_reducible exact LeO.none _)
      | (with_reducible refine LeO.ite ?_ ?_)
      | (with_reducible refine LeO.bind ?_ (fun _ => ?_))
      | exact ih0 _ _ _
      | exact ih1 _ _ _
      | exact ih2 _ _ _ _
      | exact ih3 _ _ _ _
      | exact LeO.none _
      | refine LeO.ite ?_ ?_
      | refine LeO.bind ?_ (fun _ => ?_)
    · intro y0 y1 y2 y3
      unfold drovewayref09_Ties.j2
      repeat' first
      | (with_reducible exact ih0 _ _ _)
      | (with_reducible exact ih1 _ _ _)
      | (with_reducible exact ih2 _ _ _ _)
      | (with_reducible exact ih3 _ _ _ _)
      | (with_reducible exact LeO.refl _)
      | (with_reducible exact LeO.none _)
      | (with_reducible refine LeO.ite ?_ ?_)
      | (with_reducible refine LeO.bind ?_ (fun _ => ?_))
      | exact ih0 _ _ _
      | exact ih1 _ _ _
      | exact ih2 _ _ _ _
      | exact ih3 _ _ _ _
      | exact LeO.none _
      | refine LeO.ite ?_ ?_
      | refine LeO.bind ?_ (fun _ => ?_)
    · intro y0 y1 y2 y3
      unfold drovewayref09_Ties.l1
      repeat' first
      | (with_reducible exact ih0 _ _ _)
      | (with_reducible exact ih1 _ _ _)
      | (with_reducible exact ih2 _ _ _ _)
      | (with_reducible exact ih3 _ _ _ _)
      | (with_reducible exact LeO.refl _)
      | (with_reducible exact LeO.none _)
      | (with_reducible refine LeO.ite ?_ ?_)
      | (with_reducible refine LeO.bind ?_ (fun _ => ?_))
      | exact ih0 _ _ _
      | exact ih1 _ _ _
      | exact ih2 _ _ _ _
      | exact ih3 _ _ _ _
      | exact LeO.none _
      | refine LeO.ite ?_ ?_
      | refine LeO.bind ?_ (fun _ => ?_)
theorem drovewayref09_Ties.mono : ∀ a0 a1 k, LeO (drovewayref09_Ties.f k a0 a1) (drovewayref09_Ties.f (k + 1) a0 a1) := by
  intro a0 a1 k
  obtain ⟨ih0, ih1, ih2, ih3⟩ := drovewayref09_Ties.mono_l k
  unfold drovewayref09_Ties.f
  repeat' first
      | (with_reducible exact ih0 _ _ _)
      | (with_reducible exact ih1 _ _ _)
      | (with_reducible exact ih2 _ _ _ _)
      | (with_reducible exact ih3 _ _ _ _)
      | (with_reducible exact LeO.refl _)
      | (with_reducible exact LeO.none _)
      | (with_reducible refine LeO.ite ?_ ?_)
      | (with_reducible refine LeO.bind ?_ (fun _ => ?_))
      | exact ih0 _ _ _
      | exact ih1 _ _ _
      | exact ih2 _ _ _ _
      | exact ih3 _ _ _ _
      | exact LeO.none _
      | refine LeO.ite ?_ ?_
      | refine LeO.bind ?_ (fun _ => ?_)
set_option maxHeartbeats 8000000 in
set_option maxRecDepth 100000 in
theorem drovewayref09_Ties.calls (k : Nat) (a0 : Int) (A1 : Option Addr) (c1 : Nat) (l1 : List (S39)) (r : Int) (w : World) (hr1 : Kd.C k39 w A1 l1.length l1) (hc1 : l1.length ≤ c1) (h : drovewayref09_Ties.f k a0 l1 = some r) :
    Calls Try.prog 24 #[.int .i64 a0, .slice A1 l1.length c1] w fun e w' => e = .returned (.int .i64 r) ∧ Drawn0 w w' := by
  have HR1 := Aside0.mk hr1
  have HC1 := Aside0.mk hc1
  clear hr1 hc1
  have H : (if a0 < 1 then (drovewayref09_Ties.j0 k a0 l1 true) else (drovewayref09_Ties.j0 k a0 l1 (decide (a0 > 8)))) = some r := h
  clear h
  have HC3 := Aside0.mk H
  clear H
  go_enter Try.func24, Try.ntmps24
  go_upto_region 1 with (fail)
  repeat (go_quiet (fail); go_upto_region 1 with (fail))
  go_cut [12] (fun v12 wc => ∃ (kq : Nat) (x12_2 : Bool), v12 = .bool x12_2 ∧ Aside0 (drovewayref09_Ties.j0 kq a0 l1 x12_2 = some r) ∧ Aside0 (kq ≤ k) ∧ Drawn0 w wc)
  case first =>
    have H := HC3.out
    clear HC3
    by_cases c4 : a0 < 1
    · rw [if_pos c4] at H
      have c4b0 : decide (a0 < 1) = true := decide_eq_true c4
      clear c4
      (first | rw [c4b0] | (simp only [i64_w, i32_w]; rw [c4b0]) | skip)
      have H' := Aside0.mk H
      clear H
      go_wp2
      repeat (go_quiet (fail); try go_wp2)
      go_meet
      case rel => exact ⟨_, (true), (by first | rfl | (simp; done) | (simp [*]; done)), H', ⟨by first | omega | exact Nat.le_refl _⟩, by repeat (first | exact Drawn0.refl _ | apply Drawn0.step)⟩
    · rw [if_neg c4] at H
      have c4b0 : decide (a0 < 1) = false := decide_eq_false c4
      clear c4
      (first | rw [c4b0] | (simp only [i64_w, i32_w]; rw [c4b0]) | skip)
      have H' := Aside0.mk H
      clear H
      go_wp2
      repeat (go_quiet (fail); try go_wp2)
      go_meet
      case rel => exact ⟨_, (decide (a0 > 8)), (by first | rfl | (simp; done) | (simp [*]; done)), H', ⟨by first | omega | exact Nat.le_refl _⟩, by repeat (first | exact Drawn0.refl _ | apply Drawn0.step)⟩
  case rest =>
    clear HC3
    try clear c1
    try clear c2
    try clear p2
    try clear c4
    try clear c4b0
    obtain ⟨kq, x12_2, rfl, HA, HJ2, ⟨mc2, rfl⟩⟩ := hcut
    cases kq with
    | zero => exact absurd HA.out (by simp [drovewayref09_Ties.j0])
    | succ kj2 =>
      have H := HA.out
      clear HA
      simp only [drovewayref09_Ties.j0] at H
      by_cases c5 : x12_2 = true
      · subst c5
        have H1 : (some 2) = some r := by rw [if_pos rfl] at H; exact H
        clear H
        have H := H1
        clear H1
        obtain rfl := Option.some.inj H
        go_wp2
        repeat (go_quiet (fail); try go_wp2)
        go_ret
        exact ⟨by first | rfl | (simp; done) | (simp [*]; done), by repeat (first | exact Drawn0.refl _ | apply Drawn0.step)⟩
      · replace c5 := Bool.eq_false_iff.mpr c5
        subst c5
        have H1 : (if (l1.length : Int) > 20 then (some 3) else (drovewayref09_Ties.l0 kj2 a0 l1 0)) = some r := by rw [if_neg (show ¬ (false = true) by decide)] at H; exact H
        clear H
        have H := H1
        clear H1
        by_cases c6 : (l1.length : Int) > 20
        · rw [if_pos c6] at H
          have c6b0 : decide (20 < (l1.length : Int)) = true := decide_eq_true c6
          have c6b1 : decide (20 < l1.length) = true := decide_eq_true (by omega)
          clear c6
          obtain rfl := Option.some.inj H
          go_wp2
          repeat (go_quiet (fail); try go_wp2)
          go_ret
          exact ⟨by first | rfl | (simp; done) | (simp [*]; done), by repeat (first | exact Drawn0.refl _ | apply Drawn0.step)⟩
        · rw [if_neg c6] at H
          have c6b0 : decide (20 < (l1.length : Int)) = false := decide_eq_false c6
          have c6b1 : decide (20 < l1.length) = false := decide_eq_false (by omega)
          clear c6
          have H' := Aside0.mk H
          clear H
          go_wp2
          repeat (go_quiet (fail); try go_wp2)
          go_loopg [5] kj2 (fun kq v5 w' => ∃ (x5_2 : Int), v5 = .int .i64 x5_2 ∧ Aside0 (drovewayref09_Ties.l0 kq a0 l1 x5_2 = some r) ∧ Aside0 (kq ≤ kj2) ∧ Drawn0 w w')
          case atStart => exact ⟨(0), (by first | rfl | (simp; done) | (simp [*]; done)), H', ⟨Nat.le_refl _⟩, by repeat (first | exact Drawn0.refl _ | apply Drawn0.step)⟩
          case round =>
            clear H'
            try clear c1
            try clear c2
            try clear p2
            try clear c4
            try clear c4b0
            try clear c5
            try clear c6
            try clear c6b0
            try clear c6b1
            try clear p2
            obtain ⟨x5_2, rfl, HA, HK2, ⟨m2, rfl⟩⟩ := hrel
            cases gk with
            | zero => exact absurd HA.out (by simp [drovewayref09_Ties.l0])
            | succ k2 =>
              have H := HA.out
              clear HA
              simp only [drovewayref09_Ties.l0] at H
              by_cases c7 : x5_2 < (l1.length : Int)
              · rw [if_pos c7] at H
                have c7b0 : decide (x5_2 < (l1.length : Int)) = true := decide_eq_true c7
                clear c7
                have HC8 := Aside0.mk H
                clear H
                go_upto_region 8 with (fail)
                repeat (go_quiet (fail); go_upto_region 8 with (fail))
                go_cut [49] (fun v49 wc => ∃ (kq : Nat) (x49_7 : Bool), v49 = .bool x49_7 ∧ Aside0 (drovewayref09_Ties.j2 kq a0 l1 x5_2 x49_7 = some r) ∧ Aside0 (kq ≤ k2) ∧ Drawn0 w wc)
                case first =>
                  have H := HC8.out
                  clear HC8
                  by_cases c9 : 0 ≤ x5_2
                  · rw [if_pos c9] at H
                    have c9b0 : decide (0 ≤ x5_2) = true := decide_eq_true c9
                    clear c9
                    (first | rw [c9b0] | (simp only [i64_w, i32_w]; rw [c9b0]) | skip)
                    by_cases c10 : ((rd_T39 l1 x5_2).f0) < 0
                    · rw [if_pos c10] at H
                      have c10b0 : decide (((rd_T39 l1 x5_2).f0) < 0) = true := decide_eq_true c10
                      clear c10
                      have H' := Aside0.mk H
                      clear H
                      have p155 : 0 ≤ (x5_2 : Int) := of_decide_eq_true (by first | (with_reducible assumption) | assumption)
                      have q155 : x5_2 < (l1.length : Int) := of_decide_eq_true (by first | (with_reducible assumption) | assumption)
                      obtain ⟨ad155, e155, hx155_0, hx155_1, hx155_2⟩ := at_T39 HR1.out x5_2 p155 q155
                      cases e155
                      replace p155 := eq_true p155
                      replace q155 := eq_true q155
                      go_wp2
                      repeat (go_quiet (fail); try go_wp2)
                      go_meet
                      case rel => exact ⟨_, (true), (by first | rfl | (simp; done) | (simp [*]; done)), H', ⟨by have := HJ2.out; have := HK2.out; first | omega | exact Nat.le_refl _⟩, by repeat (first | exact Drawn0.refl _ | apply Drawn0.step)⟩
                    · rw [if_neg c10] at H
                      have c10b0 : decide (((rd_T39 l1 x5_2).f0) < 0) = false := decide_eq_false c10
                      clear c10
                      by_cases c11 : ((rd_T39 l1 x5_2).f0) ≥ ((rd_T39 l1 x5_2).f1)
                      · rw [if_pos c11] at H
                        have c11b0 : decide (((rd_T39 l1 x5_2).f1) ≤ ((rd_T39 l1 x5_2).f0)) = true := decide_eq_true c11
                        clear c11
                        have H' := Aside0.mk H
                        clear H
                        have p155 : 0 ≤ (x5_2 : Int) := of_decide_eq_true (by first | (with_reducible assumption) | assumption)
                        have q155 : x5_2 < (l1.length : Int) := of_decide_eq_true (by first | (with_reducible assumption) | assumption)
                        obtain ⟨ad155, e155, hx155_0, hx155_1, hx155_2⟩ := at_T39 HR1.out x5_2 p155 q155
                        cases e155
                        replace p155 := eq_true p155
                        replace q155 := eq_true q155
                        have p156 : 0 ≤ (x5_2 : Int) := of_decide_eq_true (by first | (with_reducible assumption) | assumption)
                        have q156 : x5_2 < (l1.length : Int) := of_decide_eq_true (by first | (with_reducible assumption) | assumption)
                        obtain ⟨ad156, e156, hx156_0, hx156_1, hx156_2⟩ := at_T39 HR1.out x5_2 p156 q156
                        obtain rfl : ad155 = ad156 := (by injection e156)
                        replace p156 := eq_true p156
                        replace q156 := eq_true q156
                        have p157 : 0 ≤ (x5_2 : Int) := of_decide_eq_true (by first | (with_reducible assumption) | assumption)
                        have q157 : x5_2 < (l1.length : Int) := of_decide_eq_true (by first | (with_reducible assumption) | assumption)
                        obtain ⟨ad157, e157, hx157_0, hx157_1, hx157_2⟩ := at_T39 HR1.out x5_2 p157 q157
                        obtain rfl : ad155 = ad157 := (by injection e157)
                        replace p157 := eq_true p157
                        replace q157 := eq_true q157
                        go_wp2
                        repeat (go_quiet (fail); try go_wp2)
                        go_meet
                        case rel => exact ⟨_, (true), (by first | rfl | (simp; done) | (simp [*]; done)), H', ⟨by have := HJ2.out; have := HK2.out; first | omega | exact Nat.le_refl _⟩, by repeat (first | exact Drawn0.refl _ | apply Drawn0.step)⟩
                      · rw [if_neg c11] at H
                        have c11b0 : decide (((rd_T39 l1 x5_2).f1) ≤ ((rd_T39 l1 x5_2).f0)) = false := decide_eq_false c11
                        clear c11
                        have H' := Aside0.mk H
                        clear H
                        have p155 : 0 ≤ (x5_2 : Int) := of_decide_eq_true (by first | (with_reducible assumption) | assumption)
                        have q155 : x5_2 < (l1.length : Int) := of_decide_eq_true (by first | (with_reducible assumption) | assumption)
                        obtain ⟨ad155, e155, hx155_0, hx155_1, hx155_2⟩ := at_T39 HR1.out x5_2 p155 q155
                        cases e155
                        replace p155 := eq_true p155
                        replace q155 := eq_true q155
                        have p156 : 0 ≤ (x5_2 : Int) := of_decide_eq_true (by first | (with_reducible assumption) | assumption)
                        have q156 : x5_2 < (l1.length : Int) := of_decide_eq_true (by first | (with_reducible assumption) | assumption)
                        obtain ⟨ad156, e156, hx156_0, hx156_1, hx156_2⟩ := at_T39 HR1.out x5_2 p156 q156
                        obtain rfl : ad155 = ad156 := (by injection e156)
                        replace p156 := eq_true p156
                        replace q156 := eq_true q156
                        have p157 : 0 ≤ (x5_2 : Int) := of_decide_eq_true (by first | (with_reducible assumption) | assumption)
                        have q157 : x5_2 < (l1.length : Int) := of_decide_eq_true (by first | (with_reducible assumption) | assumption)
                        obtain ⟨ad157, e157, hx157_0, hx157_1, hx157_2⟩ := at_T39 HR1.out x5_2 p157 q157
                        obtain rfl : ad155 = ad157 := (by injection e157)
                        replace p157 := eq_true p157
                        replace q157 := eq_true q157
                        have p158 : 0 ≤ (x5_2 : Int) := of_decide_eq_true (by first | (with_reducible assumption) | assumption)
                        have q158 : x5_2 < (l1.length : Int) := of_decide_eq_true (by first | (with_reducible assumption) | assumption)
                        obtain ⟨ad158, e158, hx158_0, hx158_1, hx158_2⟩ := at_T39 HR1.out x5_2 p158 q158
                        obtain rfl : ad155 = ad158 := (by injection e158)
                        replace p158 := eq_true p158
                        replace q158 := eq_true q158
                        go_wp2
                        repeat (go_quiet (fail); try go_wp2)
                        go_meet
                        case rel => exact ⟨_, (decide (((rd_T39 l1 x5_2).f1) ≥ a0)), (by first | rfl | (simp; done) | (simp [*]; done)), H', ⟨by have := HJ2.out; have := HK2.out; first | omega | exact Nat.le_refl _⟩, by repeat (first | exact Drawn0.refl _ | apply Drawn0.step)⟩
                  · rw [if_neg c9] at H
                    exact absurd H (by simp)
                case rest =>
                  clear HC8
                  try clear c1
                  try clear p1
                  try clear q1
                  try clear hx1
                  try clear c2
                  try clear p2
                  try clear c4
                  try clear c4b0
                  try clear c5
                  try clear c6
                  try clear c6b0
                  try clear c6b1
                  try clear c7
                  try clear c7b0
                  try clear c9
                  try clear c9b0
                  try clear c10
                  try clear c10b0
                  try clear c11
                  try clear c11b0
                  try clear hx155_0
                  try clear hx155_1
                  try clear hx155_2
                  try clear hx156_0
                  try clear hx156_1
                  try clear hx156_2
                  try clear hx157_0
                  try clear hx157_1
                  try clear hx157_2
                  try clear hx158_0
                  try clear hx158_1
                  try clear hx158_2
                  try clear p155
                  try clear p156
                  try clear p157
                  try clear p158
                  try clear p2
                  try clear q155
                  try clear q156
                  try clear q157
                  try clear q158
                  obtain ⟨kq, x49_7, rfl, HA, HJ7, ⟨mc7, rfl⟩⟩ := hcut
                  cases kq with
                  | zero => exact absurd HA.out (by simp [drovewayref09_Ties.j2])
                  | succ kj7 =>
                    have H := HA.out
                    clear HA
                    simp only [drovewayref09_Ties.j2] at H
                    by_cases c12 : x49_7 = true
                    · subst c12
                      have H1 : (some 2) = some r := by rw [if_pos rfl] at H; exact H
                      clear H
                      have H := H1
                      clear H1
                      obtain rfl := Option.some.inj H
                      go_wp2
                      repeat (go_quiet (fail); try go_wp2)
                      go_ret
                      exact ⟨by first | rfl | (simp; done) | (simp [*]; done), by repeat (first | exact Drawn0.refl _ | apply Drawn0.step)⟩
                    · replace c12 := Bool.eq_false_iff.mpr c12
                      subst c12
                      have H1 : (drovewayref09_Ties.l1 kj7 a0 l1 x5_2 0) = some r := by rw [if_neg (show ¬ (false = true) by decide)] at H; exact H
                      clear H
                      have H := H1
                      clear H1
                      have H' := Aside0.mk H
                      clear H
                      go_wp2
                      repeat (go_quiet (fail); try go_wp2)
                      go_loopg [6] kj7 (fun kq v6 w' => ∃ (x6_4 : Int), v6 = .int .i64 x6_4 ∧ Aside0 (drovewayref09_Ties.l1 kq a0 l1 x5_2 x6_4 = some r) ∧ Aside0 (kq ≤ kj7) ∧ Drawn0 w w')
                      case atStart => exact ⟨(0), (by first | rfl | (simp; done) | (simp [*]; done)), H', ⟨Nat.le_refl _⟩, by repeat (first | exact Drawn0.refl _ | apply Drawn0.step)⟩
                      case round =>
                        clear H'
                        try clear c1
                        try clear p1
                        try clear q1
                        try clear hx1
                        try clear c2
                        try clear p2
                        try clear c4
                        try clear c4b0
                        try clear c5
                        try clear c6
                        try clear c6b0
                        try clear c6b1
                        try clear c7
                        try clear c7b0
                        try clear c9
                        try clear c9b0
                        try clear c10
                        try clear c10b0
                        try clear c11
                        try clear c11b0
                        try clear c12
                        try clear hx155_0
                        try clear hx155_1
                        try clear hx155_2
                        try clear hx156_0
                        try clear hx156_1
                        try clear hx156_2
                        try clear hx157_0
                        try clear hx157_1
                        try clear hx157_2
                        try clear hx158_0
                        try clear hx158_1
                        try clear hx158_2
                        try clear p1
                        try clear p155
                        try clear p156
                        try clear p157
                        try clear p158
                        try clear p2
                        try clear q1
                        try clear q155
                        try clear q156
                        try clear q157
                        try clear q158
                        obtain ⟨x6_4, rfl, HA, HK4, ⟨m4, rfl⟩⟩ := hrel
                        cases gk with
                        | zero => exact absurd HA.out (by simp [drovewayref09_Ties.l1])
                        | succ k4 =>
                          have H := HA.out
                          clear HA
                          simp only [drovewayref09_Ties.l1] at H
                          by_cases c13 : x6_4 < x5_2
                          · rw [if_pos c13] at H
                            have c13b0 : decide (x6_4 < x5_2) = true := decide_eq_true c13
                            clear c13
                            by_cases c14 : 0 ≤ x6_4
                            · rw [if_pos c14] at H
                              have c14b0 : decide (0 ≤ x6_4) = true := decide_eq_true c14
                              clear c14
                              by_cases c15 : x6_4 < (l1.length : Int)
                              · rw [if_pos c15] at H
                                have c15b0 : decide (x6_4 < (l1.length : Int)) = true := decide_eq_true c15
                                clear c15
                                by_cases c16 : 0 ≤ x5_2
                                · rw [if_pos c16] at H
                                  have c16b0 : decide (0 ≤ x5_2) = true := decide_eq_true c16
                                  clear c16
                                  by_cases c17 : x5_2 < (l1.length : Int)
                                  · rw [if_pos c17] at H
                                    have c17b0 : decide (x5_2 < (l1.length : Int)) = true := decide_eq_true c17
                                    clear c17
                                    by_cases c18 : ((rd_T39 l1 x6_4).f0) = ((rd_T39 l1 x5_2).f0)
                                    · rw [if_pos c18] at H
                                      have c18b0 : (((rd_T39 l1 x6_4).f0) == ((rd_T39 l1 x5_2).f0)) = true := beq_iff_eq.mpr c18
                                      have c18b1 : (((rd_T39 l1 x6_4).f0) != ((rd_T39 l1 x5_2).f0)) = false := bne_eq_false_iff_eq.mpr c18
                                      clear c18
                                      by_cases c19 : ((rd_T39 l1 x6_4).f1) = ((rd_T39 l1 x5_2).f1)
                                      · rw [if_pos c19] at H
                                        have c19b0 : (((rd_T39 l1 x6_4).f1) == ((rd_T39 l1 x5_2).f1)) = true := beq_iff_eq.mpr c19
                                        have c19b1 : (((rd_T39 l1 x6_4).f1) != ((rd_T39 l1 x5_2).f1)) = false := bne_eq_false_iff_eq.mpr c19
                                        clear c19
                                        obtain rfl := Option.some.inj H
                                        have p159 : 0 ≤ (x6_4 : Int) := of_decide_eq_true (by first | (with_reducible assumption) | assumption)
                                        have q159 : x6_4 < (l1.length : Int) := of_decide_eq_true (by first | (with_reducible assumption) | assumption)
                                        obtain ⟨ad159, e159, hx159_0, hx159_1, hx159_2⟩ := at_T39 HR1.out x6_4 p159 q159
                                        cases e159
                                        replace p159 := eq_true p159
                                        replace q159 := eq_true q159
                                        have p160 : 0 ≤ (x5_2 : Int) := of_decide_eq_true (by first | (with_reducible assumption) | assumption)
                                        have q160 : x5_2 < (l1.length : Int) := of_decide_eq_true (by first | (with_reducible assumption) | assumption)
                                        obtain ⟨ad160, e160, hx160_0, hx160_1, hx160_2⟩ := at_T39 HR1.out x5_2 p160 q160
                                        obtain rfl : ad159 = ad160 := (by injection e160)
                                        replace p160 := eq_true p160
                                        replace q160 := eq_true q160
                                        have p161 : 0 ≤ (x6_4 : Int) := of_decide_eq_true (by first | (with_reducible assumption) | assumption)
                                        have q161 : x6_4 < (l1.length : Int) := of_decide_eq_true (by first | (with_reducible assumption) | assumption)
                                        obtain ⟨ad161, e161, hx161_0, hx161_1, hx161_2⟩ := at_T39 HR1.out x6_4 p161 q161
                                        obtain rfl : ad159 = ad161 := (by injection e161)
                                        replace p161 := eq_true p161
                                        replace q161 := eq_true q161
                                        have p162 : 0 ≤ (x5_2 : Int) := of_decide_eq_true (by first | (with_reducible assumption) | assumption)
                                        have q162 : x5_2 < (l1.length : Int) := of_decide_eq_true (by first | (with_reducible assumption) | assumption)
                                        obtain ⟨ad162, e162, hx162_0, hx162_1, hx162_2⟩ := at_T39 HR1.out x5_2 p162 q162
                                        obtain rfl : ad159 = ad162 := (by injection e162)
                                        replace p162 := eq_true p162
                                        replace q162 := eq_true q162
                                        go_wp2
                                        repeat (go_quiet (fail); try go_wp2)
                                        go_ret
                                        exact ⟨by first | rfl | (simp; done) | (simp [*]; done), by repeat (first | exact Drawn0.refl _ | apply Drawn0.step)⟩
                                      · rw [if_neg c19] at H
                                        have c19b0 : (((rd_T39 l1 x6_4).f1) == ((rd_T39 l1 x5_2).f1)) = false := beq_eq_false_iff_ne.mpr c19
                                        have c19b1 : (((rd_T39 l1 x6_4).f1) != ((rd_T39 l1 x5_2).f1)) = true := bne_iff_ne.mpr c19
                                        have H' := Aside0.mk H
                                        clear H
                                        have p159 : 0 ≤ (x6_4 : Int) := of_decide_eq_true (by first | (with_reducible assumption) | assumption)
                                        have q159 : x6_4 < (l1.length : Int) := of_decide_eq_true (by first | (with_reducible assumption) | assumption)
                                        obtain ⟨ad159, e159, hx159_0, hx159_1, hx159_2⟩ := at_T39 HR1.out x6_4 p159 q159
                                        cases e159
                                        replace p159 := eq_true p159
                                        replace q159 := eq_true q159
                                        have p160 : 0 ≤ (x5_2 : Int) := of_decide_eq_true (by first | (with_reducible assumption) | assumption)
                                        have q160 : x5_2 < (l1.length : Int) := of_decide_eq_true (by first | (with_reducible assumption) | assumption)
                                        obtain ⟨ad160, e160, hx160_0, hx160_1, hx160_2⟩ := at_T39 HR1.out x5_2 p160 q160
                                        obtain rfl : ad159 = ad160 := (by injection e160)
                                        replace p160 := eq_true p160
                                        replace q160 := eq_true q160
                                        have p161 : 0 ≤ (x6_4 : Int) := of_decide_eq_true (by first | (with_reducible assumption) | assumption)
                                        have q161 : x6_4 < (l1.length : Int) := of_decide_eq_true (by first | (with_reducible assumption) | assumption)
                                        obtain ⟨ad161, e161, hx161_0, hx161_1, hx161_2⟩ := at_T39 HR1.out x6_4 p161 q161
                                        obtain rfl : ad159 = ad161 := (by injection e161)
                                        replace p161 := eq_true p161
                                        replace q161 := eq_true q161
                                        have p162 : 0 ≤ (x5_2 : Int) := of_decide_eq_true (by first | (with_reducible assumption) | assumption)
                                        have q162 : x5_2 < (l1.length : Int) := of_decide_eq_true (by first | (with_reducible assumption) | assumption)
                                        obtain ⟨ad162, e162, hx162_0, hx162_1, hx162_2⟩ := at_T39 HR1.out x5_2 p162 q162
                                        obtain rfl : ad159 = ad162 := (by injection e162)
                                        replace p162 := eq_true p162
                                        replace q162 := eq_true q162
                                        go_wp2
                                        repeat (go_quiet (fail); try go_wp2)
                                        go_roundg k4
                                        case measure => have := HJ2.out; have := HK2.out; have := HJ7.out; have := HK4.out; omega
                                        case rel => exact ⟨(wrap64 (x6_4 + 1)), (by first | rfl | (simp; done) | (simp [*]; done)), H', ⟨by have := HJ2.out; have := HK2.out; have := HJ7.out; have := HK4.out; omega⟩, by repeat (first | exact Drawn0.refl _ | apply Drawn0.step)⟩
                                    · rw [if_neg c18] at H
                                      have c18b0 : (((rd_T39 l1 x6_4).f0) == ((rd_T39 l1 x5_2).f0)) = false := beq_eq_false_iff_ne.mpr c18
                                      have c18b1 : (((rd_T39 l1 x6_4).f0) != ((rd_T39 l1 x5_2).f0)) = true := bne_iff_ne.mpr c18
                                      have H' := Aside0.mk H
                                      clear H
                                      have p159 : 0 ≤ (x6_4 : Int) := of_decide_eq_true (by first | (with_reducible assumption) | assumption)
                                      have q159 : x6_4 < (l1.length : Int) := of_decide_eq_true (by first | (with_reducible assumption) | assumption)
                                      obtain ⟨ad159, e159, hx159_0, hx159_1, hx159_2⟩ := at_T39 HR1.out x6_4 p159 q159
                                      cases e159
                                      replace p159 := eq_true p159
                                      replace q159 := eq_true q159
                                      have p160 : 0 ≤ (x5_2 : Int) := of_decide_eq_true (by first | (with_reducible assumption) | assumption)
                                      have q160 : x5_2 < (l1.length : Int) := of_decide_eq_true (by first | (with_reducible assumption) | assumption)
                                      obtain ⟨ad160, e160, hx160_0, hx160_1, hx160_2⟩ := at_T39 HR1.out x5_2 p160 q160
                                      obtain rfl : ad159 = ad160 := (by injection e160)
                                      replace p160 := eq_true p160
                                      replace q160 := eq_true q160
                                      go_wp2
                                      repeat (go_quiet (fail); try go_wp2)
                                      go_roundg k4
                                      case measure => have := HJ2.out; have := HK2.out; have := HJ7.out; have := HK4.out; omega
                                      case rel => exact ⟨(wrap64 (x6_4 + 1)), (by first | rfl | (simp; done) | (simp [*]; done)), H', ⟨by have := HJ2.out; have := HK2.out; have := HJ7.out; have := HK4.out; omega⟩, by repeat (first | exact Drawn0.refl _ | apply Drawn0.step)⟩
                                  · rw [if_neg c17] at H
                                    exact absurd H (by simp)
                                · rw [if_neg c16] at H
                                  exact absurd H (by simp)
                              · rw [if_neg c15] at H
                                exact absurd H (by simp)
                            · rw [if_neg c14] at H
                              exact absurd H (by simp)
                          · rw [if_neg c13] at H
                            have c13b0 : decide (x6_4 < x5_2) = false := decide_eq_false c13
                            clear c13
                            have H' := Aside0.mk H
                            clear H
                            go_wp2
                            repeat (go_quiet (fail); try go_wp2)
                            go_roundg k4
                            case measure => have := HJ2.out; have := HK2.out; have := HJ7.out; have := HK4.out; omega
                            case rel => exact ⟨(wrap64 (x5_2 + 1)), (by first | rfl | (simp; done) | (simp [*]; done)), H', ⟨by have := HJ2.out; have := HK2.out; have := HJ7.out; have := HK4.out; omega⟩, by repeat (first | exact Drawn0.refl _ | apply Drawn0.step)⟩
              · rw [if_neg c7] at H
                have c7b0 : decide (x5_2 < (l1.length : Int)) = false := decide_eq_false c7
                clear c7
                obtain rfl := Option.some.inj H
                go_wp2
                repeat (go_quiet (fail); try go_wp2)
                go_ret
                exact ⟨by first | rfl | (simp; done) | (simp [*]; done), by repeat (first | exact Drawn0.refl _ | apply Drawn0.step)⟩

end
end Go.Proofs.Ytaegldcifhgnmaa.B
