/- FeudsFewer holds: its code returns true and leaves what it was given as it was. Conditions: those of the given statement, none besides. -/
import Derived.Test.YtaegldcifhgnmaaZFe0
import Derived.KernelRfl
import Derived.Test.YtaegldcifhgnmaaProg
import Derived.Below
import Derived.Deep.Draws
import Derived.Deep.AppendLies
import Derived.Maps.AppendAt
import Derived.OwnWalk
import Derived.Laws.BytesArg
import Derived.Laws.MakeOwn
import Derived.Laws.OwnMore
import Derived.Deep.OwnRows
import Derived.Tactics
import Derived.Lib.ConvBytes
import Derived.Laws.Slices
import Derived.WalkKit
import Derived.RowKit3
import Derived.Deep.LoopGhost
import Derived.Deep.QuietTactic
import Derived.BigQuiet
import Derived.WideLaws
import Derived.Deep.DeepCutAuto
import Derived.Deep.CutBlock
import Derived.Deep.RegionHeld3
import Derived.Laws.Rows
import Derived.Lib.AppendStr
import Derived.ArgAppend
import Derived.Laws.IdiomCopy
import Derived.OrdersHeld
import Derived.Laws.BitsLemmas
import Derived.RowKit
import Derived.Test.YtaegldcifhgnmaaWWords
import Derived.Test.YtaegldcifhgnmaaWLast
import Derived.Test.YtaegldcifhgnmaaWTab
import Derived.Test.YtaegldcifhgnmaaWFour
import Derived.Test.YtaegldcifhgnmaaWQPut
import Derived.Test.YtaegldcifhgnmaaWApart
import Derived.Test.YtaegldcifhgnmaaWArr
import Derived.Test.YtaegldcifhgnmaaWZeros
import Derived.Test.YtaegldcifhgnmaaWFoot
import Derived.Test.YtaegldcifhgnmaaWKept
import Derived.Test.YtaegldcifhgnmaaWShare
import Derived.Test.YtaegldcifhgnmaaWN
import Derived.Test.YtaegldcifhgnmaaWFootNe
import Derived.Test.YtaegldcifhgnmaaWAt
import Derived.Test.YtaegldcifhgnmaaWEqStruct
import Derived.Test.YtaegldcifhgnmaaWRepsOne
import Derived.Test.YtaegldcifhgnmaaWInv
import Derived.Test.YtaegldcifhgnmaaWInvWords
import Derived.Test.YtaegldcifhgnmaaWGuard
import Derived.Test.YtaegldcifhgnmaaWNEv
import Derived.Test.YtaegldcifhgnmaaWMore
import Derived.Deep.Slices
import Derived.ChangeSame
import Derived.Test.YtaegldcifhgnmaaRows
import Derived.ProofKit
import Derived.OpenShut
import Derived.ShutString
import Derived.ChangeOld
import Derived.SizedLaws
import Derived.Test.YtaegldcifhgnmaaWSized
/- The groups of drovers, plain. -/
namespace Go.Proofs.Ytaegldcifhgnmaa.A
open Go.RowKit Go.Proofs.YtaegldcifhgnmaaW.PrintWords Go.Proofs.YtaegldcifhgnmaaW.PrintMore

/-- a without b. -/
def less (a b : Nat) : Nat := a ^^^ (a &&& b)
theorem tb_less (a b i : Nat) : (less a b).testBit i = (a.testBit i && !b.testBit i) := by
  unfold less
  rw [Nat.testBit_xor, Nat.testBit_and]
  cases a.testBit i <;> cases b.testBit i <;> rfl
theorem less_lt {a b k : Nat} (h : a < 2 ^ k) : less a b < 2 ^ k := Nat.xor_lt_two_pow h (Nat.lt_of_le_of_lt Nat.and_le_left h)
theorem andNot64 (a b : Nat) (ha : a < 2 ^ 62) (_hb : b < 2 ^ 62) : bits .andNot .i64 (a : Int) (b : Int) = ((less a b : Nat) : Int) := by
  have e : (BitVec.ofInt IntKind.i64.bits (a : Int) &&& ~~~ BitVec.ofInt IntKind.i64.bits (b : Int)).toNat = less a b := by
    rw [BitVec.ofInt_natCast, BitVec.ofInt_natCast]
    apply Nat.eq_of_testBit_eq
    intro i
    rw [tb_less, BitVec.testBit_toNat, BitVec.getLsbD_and, BitVec.getLsbD_not, BitVec.getLsbD_ofNat, BitVec.getLsbD_ofNat]
    by_cases hi : i < IntKind.i64.bits
    · simp [hi]
    · rw [tb_big ha (j := i) (by have : IntKind.i64.bits = 64 := rfl; omega)]
      simp
  show IntKind.i64.wrap _ = _
  simp only [e]
  exact wrap64_nat _ (by omega) (by exact_mod_cast less_lt ha)

/-- The least drover of a set, as a set. -/
def lowB (x : Nat) : Nat := less x (x - 1)
theorem low_table : (List.range 256).all (fun x => decide (bits .and .i64 (x : Int) (-(x : Int)) = (lowB x : Int))) = true := by decide +kernel
theorem low_ask {x : Nat} (h : x < 256) : bits .and .i64 (x : Int) (-(x : Int)) = (lowB x : Int) := by
  have := List.all_eq_true.1 low_table x (List.mem_range.2 h)
  exact of_decide_eq_true this

def pairB (t : S39) : Nat := 2 ^ t.f0.toNat ||| 2 ^ t.f1.toNat
/-- A set, with the drovers that a tie adds. -/
def addT (q : S39 → Bool) (t : S39) (x : Nat) : Nat := if q t = true ∧ x &&& pairB t ≠ 0 then x ||| pairB t else x
/-- With those that the first k ties add, one after another. -/
def addK (q : S39 → Bool) (l : List S39) (x : Nat) : Nat → Nat
  | 0 => x
  | k + 1 => addT q (l.getD k z39) (addK q l x k)
def spread (q : S39 → Bool) (l : List S39) (x : Nat) : Nat → Nat
  | 0 => x
  | k + 1 => addK q l (spread q l x k) l.length
/-- The groups of those that are left. -/
def groupsL (q : S39 → Bool) (n : Nat) (l : List S39) : Nat → Nat → List Int
  | 0, _ => []
  | f + 1, left => if left = 0 then [] else ((spread q l (lowB left) n : Nat) : Int) :: groupsL q n l f (less left (spread q l (lowB left) n))
def groupsF (q : S39 → Bool) (n : Nat) (l : List S39) : List Int := groupsL q n l (2 ^ n) (2 ^ n - 1)

theorem addT_sup {q : S39 → Bool} {t : S39} {x i : Nat} (h : x.testBit i = true) : (addT q t x).testBit i = true := by
  unfold addT
  split
  · rw [Nat.testBit_or, h]; rfl
  · exact h
theorem addK_sup {q : S39 → Bool} {l : List S39} {x i : Nat} (h : x.testBit i = true) : ∀ k, (addK q l x k).testBit i = true
  | 0 => h
  | k + 1 => addT_sup (addK_sup h k)
theorem spread_sup {q : S39 → Bool} {l : List S39} {x i : Nat} (h : x.testBit i = true) : ∀ k, (spread q l x k).testBit i = true
  | 0 => h
  | k + 1 => addK_sup (spread_sup h k) _
/-- Ties of m drovers. -/
def okN (m : Nat) (l : List S39) : Prop := ∀ t ∈ l, 0 ≤ t.f0 ∧ t.f0 < m ∧ 0 ≤ t.f1 ∧ t.f1 < m
theorem pairB_lt {m : Nat} {t : S39} (h : 0 ≤ t.f0 ∧ t.f0 < m ∧ 0 ≤ t.f1 ∧ t.f1 < m) : pairB t < 2 ^ m :=
  or_lt (Nat.pow_lt_pow_right (by decide) (by omega)) (Nat.pow_lt_pow_right (by decide) (by omega))
theorem addK_lt {q : S39 → Bool} {l : List S39} {x m : Nat} (hl : okN m l) (hx : x < 2 ^ m) : ∀ k, k ≤ l.length → addK q l x k < 2 ^ m
  | 0, _ => hx
  | k + 1, hk => by
    unfold addK addT
    split
    · exact or_lt (addK_lt hl hx k (by omega)) (pairB_lt (hl _ (getD_mem z39 (by omega))))
    · exact addK_lt hl hx k (by omega)
theorem spread_lt {q : S39 → Bool} {l : List S39} {x m : Nat} (hl : okN m l) (hx : x < 2 ^ m) : ∀ k, spread q l x k < 2 ^ m
  | 0 => hx
  | k + 1 => addK_lt hl (spread_lt hl hx k) _ (Nat.le_refl _)
theorem lowB_lt {x m : Nat} (h : x < 2 ^ m) : lowB x < 2 ^ m := less_lt h
theorem low_bit_table : (List.range 256).all (fun x => x == 0 || (List.range 8).any fun i => x.testBit i && (lowB x).testBit i) = true := by decide +kernel
theorem low_bit {x : Nat} (h : x < 256) (h0 : x ≠ 0) : ∃ i, x.testBit i = true ∧ (lowB x).testBit i = true := by
  have := List.all_eq_true.1 low_bit_table x (List.mem_range.2 h)
  rw [Bool.or_eq_true, beq_iff_eq] at this
  rcases this with h1 | h1
  · exact absurd h1 h0
  · obtain ⟨i, _, hi⟩ := List.any_eq_true.1 h1
    rw [Bool.and_eq_true] at hi
    exact ⟨i, hi.1, hi.2⟩
theorem less_le (a b : Nat) : less a b ≤ a := by
  have : a &&& less a b = less a b := by
    apply Nat.eq_of_testBit_eq
    intro i
    rw [Nat.testBit_and, tb_less]
    cases a.testBit i <;> simp
  rw [← this]
  exact Nat.and_le_left
theorem less_dec {a b i : Nat} (ha : a.testBit i = true) (hb : b.testBit i = true) : less a b < a := by
  have h1 := less_le a b
  rcases Nat.lt_or_eq_of_le h1 with h | h
  · exact h
  · have := tb_less a b i
    rw [h, ha, hb] at this
    cases this
end Go.Proofs.Ytaegldcifhgnmaa.A

/- The groups of drovers: the walk. -/
namespace Go.Proofs.Ytaegldcifhgnmaa.A
open Go.RowKit Go.Proofs.YtaegldcifhgnmaaW.PrintWords Go.Proofs.YtaegldcifhgnmaaW.PrintMore

/-- A function value that says of a tie whether something is true of it. -/
structure SaysT (gq : Nat) (q : S39 → Bool) : Prop where
  enters : ∀ args w, (callFunc gq args).run Try.prog w = .ok (.enter gq args) w
  call : ∀ (t : S39) (W : World), Calls Try.prog gq #[.agg #[.int .i64 t.f0, .int .i64 t.f1, .bool t.f2]] W fun e w' => e = .returned (.bool (q t)) ∧ Below W.heap.size W w'

/-- What is held. -/
structure Held (w : World) (n : Nat) (A : Option Addr) (c : Nat) (l : List S39) (v : Value) (out : List Int) (W : World) : Prop where
  net : W.heap[w.heap.size]? = some (.cells #[.int .i64 n, .slice A l.length c] 59 (0, 0))
  below : Below w.heap.size w W
  row : Kd.R (Kd.int .i64) 3 W (w.heap.size + 1) (fun _ => True) v out
theorem held_next {w W W' : World} {n : Nat} {A : Option Addr} {c : Nat} {l : List S39} {v : Value} {out : List Int} (h : Held w n A c l v out W) (hb : Below W.heap.size W W') : Held w n A c l v out W' :=
  ⟨(hb.block _ (blk_lt h.net)).trans h.net, below_then h.below h.below.size hb, Kd.R_below h.row hb⟩

set_option maxRecDepth 100000 in
set_option maxHeartbeats 3200000 in
theorem groups_calls (gq : Nat) (q : S39 → Bool) (hsay : SaysT gq q) (n : Nat) (hn : n ≤ 8) (A : Option Addr) (c : Nat) (l : List S39) (hok : okN n l) (hl : l.length ≤ 1000) (w : World) (hr : Kd.C k39 w A l.length l) :
    Calls Try.prog 52 #[.agg #[.int .i64 n, .slice A l.length c], .func (.func gq) #[] #[]] w fun e w' => ∃ v, e = .returned v ∧ Kd.R (Kd.int .i64) 3 w' w.heap.size (fun _ => True) v (sortI (groupsF q n l)) ∧ Below w.heap.size w w' := by
  have HS := Aside0.mk hsay
  have HR := Aside0.mk hr
  have HO := Aside0.mk hok
  have eg := hsay.enters
  have hg0 := heap_alloc_new w (.cells #[.int .i64 n, .slice A l.length c] 59)
  have hb0 : Below w.heap.size w (w.alloc (.cells #[.int .i64 n, .slice A l.length c] 59)) := below_alloc (Below.refl _ _) _
  have H0 := Aside0.mk (And.intro hg0 hb0)
  obtain ⟨F, hF⟩ : ∃ F, groupsF q n l = F := ⟨_, rfl⟩
  have HF := Aside0.mk hF
  have hp8 := pow8 hn
  have hw : wrap64 (2 ^ n) = ((2 ^ n : Nat) : Int) := by rw [wrap64_two (by omega), pow_cast]
  obtain ⟨N, hN⟩ : ∃ N, 2 ^ n = N := ⟨_, rfl⟩
  have hN1 : 1 ≤ N := by rw [← hN]; exact Nat.two_pow_pos n
  rw [hF]
  rw [hN] at hw hp8
  have HN := Aside0.mk hN
  clear hsay hr hok hg0 hb0 hF hN
  go_enter Try.func52, Try.ntmps52
  go_wp2
  rw [hw]
  clear hw
  have hstart : Aside0 (Held w n A c l (.slice none 0 0) [] (w.alloc (.cells #[.int .i64 n, .slice A l.length c] 59))) := ⟨⟨H0.out.1, H0.out.2, Kd.R_nil _ _ _ _ _⟩⟩
  go_loopg [5, 6, 7, 9, 10] N (fun gg v5 v6 _ _ _ wr => ∃ (f left : Nat) (out : List Int), v6 = .int .i64 left ∧ left < N ∧ f ≤ gg ∧ left ≤ f ∧ out.length + f ≤ 256 ∧ Aside0 (Held w n A c l v5 out wr) ∧ Aside0 (out ++ groupsL q n l f left = F))
  case atStart => exact ⟨N, N - 1, [], by go_num, by omega, by omega, by omega, by simpa using hp8, hstart, ⟨by rw [← HF.out, groupsF, HN.out]; rfl⟩⟩
  case round =>
    clear hstart
    obtain ⟨f, left, out, rfl, hlN, hfg, hlf, hof, HW, HE⟩ := hrel
    obtain ⟨n0, n1, _, _⟩ := cells2 HW.out.net
    by_cases h0 : 0 < left
    · have hz : (0 : Int) < (left : Int) := by omega
      obtain ⟨f, rfl⟩ : ∃ f', f = f' + 1 := ⟨f - 1, by omega⟩
      have hlow := low_ask (x := left) (by omega)
      have hlb : Aside0 (lowB left < 2 ^ n) := ⟨lowB_lt (by rw [HN.out]; exact hlN)⟩
      obtain ⟨x0, hx0⟩ : ∃ x0, lowB left = x0 := ⟨_, rfl⟩
      rw [hx0] at hlow hlb
      have HX0 := Aside0.mk hx0
      clear hx0
      go_wp2
      obtain ⟨wo, rfl⟩ : ∃ wo : World, wo = wr := ⟨_, rfl⟩
      clear n0 n1 hlow
      go_loopg [7, 9, 10, 23] n (fun g2 v7 _ _ v23 wr => ∃ r : Nat, r ≤ n ∧ n - r ≤ g2 ∧ v23 = .int .i64 r ∧ v7 = .int .i64 (spread q l x0 r) ∧ Aside0 (Held w n A c l u5 out wr))
      case atStart => exact ⟨0, Nat.zero_le _, by omega, rfl, rfl, HW⟩
      case round =>
        clear HW
        obtain ⟨r, hrn, hg2, rfl, rfl, HW⟩ := hrel
        obtain ⟨n0, n1, _, _⟩ := cells2 HW.out.net
        by_cases hrlt : r < n
        · have hrz : (r : Int) < (n : Int) := by omega
          go_wp2
          obtain ⟨wo2, rfl⟩ : ∃ wo : World, wo = wr := ⟨_, rfl⟩
          clear n0 n1
          obtain ⟨y, hy⟩ : ∃ y, spread q l x0 r = y := ⟨_, rfl⟩
          have HYY := Aside0.mk hy
          have hyl : Aside0 (y < 2 ^ n) := ⟨by rw [← hy]; exact spread_lt HO.out hlb.out r⟩
          rw [hy]
          clear hy
          go_loopg [7, 9, 10, 28] l.length (fun g3 v7 _ _ v28 wr => ∃ k : Nat, k ≤ l.length ∧ l.length - k ≤ g3 ∧ v28 = .int .i64 k ∧ v7 = .int .i64 (addK q l y k) ∧ Aside0 (Held w n A c l u5 out wr))
          case atStart => exact ⟨0, Nat.zero_le _, by omega, rfl, rfl, HW⟩
          case round =>
            clear HW
            obtain ⟨k, hkl, hg3, rfl, rfl, HW⟩ := hrel
            by_cases hklt : k < l.length
            · have hkz : (k : Int) < (l.length : Int) := by omega
              obtain ⟨ad, rfl, hx0, hx1, hx2⟩ := at_T39 (Kd.C_below HR.out HW.out.below) (k : Int) (by omega) (by omega)
              rw [Int.toNat_natCast] at hx0 hx1 hx2
              have hrd : rd_T39 l (k : Int) = l.getD k z39 := by simp [rd_T39]
              rw [hrd] at hx0 hx1 hx2
              have hts := HO.out _ (getD_mem z39 hklt)
              have hsuc : addK q l y (k + 1) = addT q (l.getD k z39) (addK q l y k) := rfl
              have hxl := addK_lt (q := q) HO.out hyl.out k (by omega)
              generalize hy : l.getD k z39 = t at hx0 hx1 hx2 hts hsuc
              obtain ⟨a, b, f⟩ := t
              dsimp only at hx0 hx1 hx2 hts
              obtain ⟨h1, h2, h3, h4⟩ := hts
              obtain ⟨a, rfl⟩ := Int.eq_ofNat_of_zero_le h1
              obtain ⟨b, rfl⟩ := Int.eq_ofNat_of_zero_le h3
              have hPl : pairB ⟨a, b, f⟩ < 2 ^ n := pairB_lt ⟨h1, h2, h3, h4⟩
              obtain ⟨P, hP⟩ : ∃ P, pairB ⟨a, b, f⟩ = P := ⟨_, rfl⟩
              have hP2 : 2 ^ a ||| 2 ^ b = P := hP
              rw [hP] at hPl
              have HSU : Aside0 (addK q l y (k + 1) = if q ⟨a, b, f⟩ = true ∧ addK q l y k &&& P ≠ 0 then addK q l y k ||| P else addK q l y k) := ⟨by rw [hsuc, addT, hP]⟩
              obtain ⟨x, hx⟩ : ∃ x, addK q l y k = x := ⟨_, rfl⟩
              rw [hx] at hxl HSU ⊢
              have hor0 : bits .or .i64 (2 ^ a) (2 ^ b) = (P : Int) := by rw [pow_cast, pow_cast, or64 (2 ^ a) (2 ^ b) (two_lt (by omega)) (two_lt (by omega)), hP2]
              have hpa : IntKind.i64.wrap ((2 : Int) ^ a) = 2 ^ a := by rw [pow_cast]; exact wrap64_nat _ (Int.natCast_nonneg _) (by exact_mod_cast two_lt (show a < 62 by omega))
              have hpb : IntKind.i64.wrap ((2 : Int) ^ b) = 2 ^ b := by rw [pow_cast]; exact wrap64_nat _ (Int.natCast_nonneg _) (by exact_mod_cast two_lt (show b < 62 by omega))
              have hand : bits .and .i64 (x : Int) (P : Int) = ((x &&& P : Nat) : Int) := and64 x P (lt62 hxl (by omega)) (lt62 hPl (by omega))
              have horx : bits .or .i64 (x : Int) (P : Int) = ((x ||| P : Nat) : Int) := or64 x P (lt62 hxl (by omega)) (lt62 hPl (by omega))
              have HORX := Aside0.mk horx
              have HAND := Aside0.mk hand
              clear hrd hsuc hy hP hP2 hx hxl hPl horx hand h1 h3
              cases hqq : q ⟨a, b, f⟩ with
              | false =>
                have HQ := Aside0.mk hqq
                have HX : Aside0 (x = addK q l y (k + 1)) := ⟨by rw [HSU.out, if_neg (fun h => by rw [hqq] at h; cases h.1)]⟩
                clear hqq
                go_wp2
                go_quiet (fail)
                clear hor0 hpa hpb
                have HW2 := Aside0.mk (held_next HW.out (pw_below_drewN (below_alloc (Below.refl wr.heap.size wr) (.cells #[.int .i64 (a : Int), .int .i64 (b : Int), .bool f] 39)) nq))
                go_wp2_with (go_at_fn gq; go_must (refine (HS.out.call ⟨a, b, f⟩ _).mono ?_; rw [HQ.out]; rintro e w3 ⟨rfl, hb3⟩; have HW3 := Aside0.mk (held_next HW2.out hb3); clear hb3))
                go_roundg (l.length - (k + 1))
                case measure => omega
                case rel => exact ⟨k + 1, by omega, by omega, by go_num, by rw [← HX.out], HW3⟩
              | true =>
                have HQ := Aside0.mk hqq
                by_cases hz : x &&& P = 0
                · have hzz : (bits .and .i64 (x : Int) (P : Int) != 0) = false := by rw [HAND.out, hz]; rfl
                  have HX : Aside0 (x = addK q l y (k + 1)) := ⟨by rw [HSU.out, if_neg (fun h => h.2 hz)]⟩
                  clear hqq hz
                  go_wp2
                  go_quiet (fail)
                  clear hor0 hpa hpb
                  have HW2 := Aside0.mk (held_next HW.out (pw_below_drewN (below_alloc (Below.refl wr.heap.size wr) (.cells #[.int .i64 (a : Int), .int .i64 (b : Int), .bool f] 39)) nq))
                  go_wp2_with (go_at_fn gq; go_must (refine (HS.out.call ⟨a, b, f⟩ _).mono ?_; rw [HQ.out]; rintro e w3 ⟨rfl, hb3⟩; have HW3 := Aside0.mk (held_next HW2.out hb3); clear hb3))
                  go_roundg (l.length - (k + 1))
                  case measure => omega
                  case rel => exact ⟨k + 1, by omega, by omega, by go_num, by rw [← HX.out], HW3⟩
                · have hzz : (bits .and .i64 (x : Int) (P : Int) != 0) = true := by rw [HAND.out, bne_iff_ne]; omega
                  have HX : Aside0 (addK q l y (k + 1) = x ||| P) := ⟨by rw [HSU.out, if_pos ⟨hqq, hz⟩]⟩
                  have horx := HORX.out
                  clear hqq hz
                  go_wp2
                  go_quiet (fail)
                  clear hor0 hpa hpb
                  have HW2 := Aside0.mk (held_next HW.out (pw_below_drewN (below_alloc (Below.refl wr.heap.size wr) (.cells #[.int .i64 (a : Int), .int .i64 (b : Int), .bool f] 39)) nq))
                  go_wp2_with (go_at_fn gq; go_must (refine (HS.out.call ⟨a, b, f⟩ _).mono ?_; rw [HQ.out]; rintro e w3 ⟨rfl, hb3⟩; have HW3 := Aside0.mk (held_next HW2.out hb3); clear hb3))
                  go_roundg (l.length - (k + 1))
                  case measure => omega
                  case rel => exact ⟨k + 1, by omega, by omega, by go_num, by rw [HX.out], HW3⟩
            · have hkz : ¬ (k : Int) < (l.length : Int) := by omega
              have hke : k = l.length := by omega
              have HK : Aside0 (addK q l y k = spread q l x0 (r + 1)) := ⟨by rw [hke, ← HYY.out]; rfl⟩
              rw [HK.out]
              clear hke
              go_wp2
              go_roundg (n - (r + 1))
              case measure => omega
              case rel => exact ⟨r + 1, by omega, by omega, by go_num, rfl, HW⟩
        · have hrz : ¬ (r : Int) < (n : Int) := by omega
          have hre : r = n := by omega
          obtain ⟨A1, c1, hv1, hc1, _⟩ := Kd.R_reads HW.out.row
          subst hv1
          clear hc1
          obtain ⟨x, hx⟩ : ∃ x, spread q l x0 r = x := ⟨_, rfl⟩
          have hxl : x < 2 ^ n := by rw [← hx]; exact spread_lt HO.out hlb.out r
          have hsub : less left x < left := by
            obtain ⟨i, hi1, hi2⟩ := low_bit (x := left) (by omega) (by omega)
            rw [HX0.out] at hi2
            exact less_dec hi1 (by rw [← hx]; exact spread_sup hi2 r)
          have hnot : bits .andNot .i64 (left : Int) (x : Int) = ((less left x : Nat) : Int) := andNot64 left x (by omega) (lt62 hxl (by omega))
          have HG : Aside0 (groupsL q n l (f + 1) left = (x : Int) :: groupsL q n l f (less left x)) := ⟨by rw [groupsL, if_neg (by omega), HX0.out]; rw [hre] at hx; rw [hx]⟩
          rw [hx]
          have hre' : (r : Int) = n := by omega
          clear hx hre hxl
          go_wp2_with (at_builtin; go_must (refine Kd.R_append (Kd.int .i64) (w0 := wr) (w.heap.size + 1) rfl (.tmp 53) (.tmp 55) 28 3 (.int .i64 0) 8 rfl Try.underlying28 info3 rfl (by decide) (by omega) (.slice A1 out.length c1) out (x : Int) [.int .i64 (x : Int)] (fun _ => True) (fun _ => False) rfl rfl rfl (fun _ hk => hk.elim) (fun _ _ => trivial) HW.out.row (Below.refl _ _) (by have := blk_lt HW.out.net; omega) (by omega) ?_; intro v4 w4 ho hbb hg4 hat; have HW4 : Aside0 (Held w n A c l v4 (out ++ [(x : Int)]) w4) := ⟨⟨(hg4.block _ (blk_lt HW.out.net) (fun e => by have := Kd.R_base HW.out.row _ e.symm; omega)).trans HW.out.net, HW.out.below.grown hg4 HW.out.below.size (fun k hk => by have := Kd.R_base HW.out.row k hk; omega), ho⟩⟩; clear ho hbb hg4 hat))
          go_roundg f
          case measure => omega
          case rel => exact ⟨f, less left x, out ++ [(x : Int)], rfl, by omega, Nat.le_refl _, by omega, by rw [List.length_append, List.length_singleton]; omega, HW4, ⟨by rw [← HE.out, HG.out, List.append_assoc]; rfl⟩⟩
    · have hz : ¬ (0 : Int) < (left : Int) := by omega
      have hl0 : left = 0 := by omega
      have HFF : Aside0 (out = F) := ⟨by rw [← HE.out, hl0]; cases f <;> simp [groupsL]⟩
      have hlen : out.length ≤ 1000 := by omega
      clear hl0
      go_wp2_with (go_at_call 78; go_must (refine (sort_any HW.out.row hlen).mono ?_; rintro e w2 ⟨rfl, hr2, hg2⟩; have HR2 := Aside0.mk hr2; have HB2 := Aside0.mk (HW.out.below.grown hg2 HW.out.below.size (fun k hk => by have := Kd.R_base HW.out.row k hk; omega)); clear hr2 hg2))
      go_ret
      exact ⟨_, rfl, by rw [← HFF.out]; exact Kd.R_lower HR2.out (by omega), HB2.out⟩
end Go.Proofs.Ytaegldcifhgnmaa.A

/- Classes and Clans: what they return. -/
namespace Go.Proofs.Ytaegldcifhgnmaa.A
open Go.RowKit Go.Proofs.YtaegldcifhgnmaaW.PrintWords Go.Proofs.YtaegldcifhgnmaaW.PrintMore

def friendB (t : S39) : Bool := !t.f2
def anyT (_ : S39) : Bool := true
theorem enters53 : ∀ args w, (callFunc 53 args).run Try.prog w = .ok (.enter 53 args) w := enters_of Try.func53 (by kernel_rfl) rfl
theorem enters60 : ∀ args w, (callFunc 60 args).run Try.prog w = .ok (.enter 60 args) w := enters_of Try.func60 (by kernel_rfl) rfl
theorem enters55 : ∀ args w, (callFunc 55 args).run Try.prog w = .ok (.enter 55 args) w := enters_of Try.func55 (by kernel_rfl) rfl
set_option maxRecDepth 100000 in
set_option maxHeartbeats 400000 in
theorem friend_calls (t : S39) (W : World) : Calls Try.prog 53 #[.agg #[.int .i64 t.f0, .int .i64 t.f1, .bool t.f2]] W fun e w' => e = .returned (.bool (friendB t)) ∧ Below W.heap.size W w' := by
  have HB := Aside0.mk (below_alloc (Below.refl W.heap.size W) (.cells #[.int .i64 t.f0, .int .i64 t.f1, .bool t.f2] 39))
  unfold friendB
  go_enter Try.func53, Try.ntmps53
  go_wp2
  go_ret
  exact ⟨rfl, HB.out⟩
theorem says_friend : SaysT 53 friendB := ⟨enters53, friend_calls⟩
set_option maxRecDepth 100000 in
set_option maxHeartbeats 400000 in
theorem any_calls (t : S39) (W : World) : Calls Try.prog 60 #[.agg #[.int .i64 t.f0, .int .i64 t.f1, .bool t.f2]] W fun e w' => e = .returned (.bool (anyT t)) ∧ Below W.heap.size W w' := by
  have HB := Aside0.mk (below_alloc (Below.refl W.heap.size W) (.cells #[.int .i64 t.f0, .int .i64 t.f1, .bool t.f2] 39))
  unfold anyT
  go_enter Try.func60, Try.ntmps60
  go_wp2
  go_ret
  exact ⟨rfl, HB.out⟩
theorem says_any : SaysT 60 anyT := ⟨enters60, any_calls⟩

theorem tiesE_ok {m : Nat} {l : List S39} (h : tiesE m l = 0) : okN m l := by
  obtain ⟨hn, hl, ho⟩ := tiesE_parts h
  intro t ht
  obtain ⟨i, hi, rfl⟩ := List.mem_iff_getElem.1 ht
  have := okT_parts (okTies_parts ho hi).1
  rw [List.getD_eq_getElem?_getD, List.getElem?_eq_getElem hi] at this
  simp only [Option.getD_some] at this
  omega

/-! ### Classes -/
def classK (n : Nat) (l : List S39) : Int := (l.length : Int) - n + (groupsF anyT n l).length
def feuds_Classes.f (a0 : Int) (l1 : List S39) : Option (Int × Int) :=
  if tiesE a0 l1 = 0 then (if 0 ≤ classK a0.toNat l1 ∧ classK a0.toNat l1 ≤ 60 then some (((2 ^ (classK a0.toNat l1).toNat : Nat) : Int), 0) else none) else some (0, tiesE a0 l1)

set_option maxRecDepth 100000 in
set_option maxHeartbeats 800000 in
theorem Classes_err (n : Int) (A : Option Addr) (c : Nat) (l : List S39) (w : World) (hr : Kd.C k39 w A l.length l) (E : Int) (h : tiesE n l = E) (h0 : E ≠ 0) :
    Calls Try.prog 32 #[.int .i64 n, .slice A l.length c] w fun e w' => e = .returned (.tuple #[.int .i64 0, .int .i64 E]) ∧ Below w.heap.size w w' := by
  have HR := Aside0.mk hr
  have HE := Aside0.mk h
  have hg := errne h0
  have H0 := Aside0.mk h0
  clear hr h h0
  go_enter Try.func32, Try.ntmps32
  go_wp2_with (go_at_call 46; refine (read_err HR.out HE.out H0.out).mono ?_; rintro e w' ⟨rfl, hb'⟩; have HB := Aside0.mk hb'; clear hb')
  go_ret2
  exact ⟨rfl, below_alloc HB.out _⟩

set_option maxRecDepth 100000 in
set_option maxHeartbeats 800000 in
theorem Classes_good (m : Nat) (A : Option Addr) (c : Nat) (l : List S39) (w : World) (hr : Kd.C k39 w A l.length l) (h : tiesE m l = 0) (k : Nat) (hk : classK m l = k) (hk60 : k ≤ 60) :
    Calls Try.prog 32 #[.int .i64 m, .slice A l.length c] w fun e w' => e = .returned (.tuple #[.int .i64 ((2 ^ k : Nat) : Int), .int .i64 0]) ∧ Below w.heap.size w w' := by
  have hm : m ≤ 8 := by have := (tiesE_parts h).1; omega
  have hl20 : l.length ≤ 20 := (tiesE_parts h).2.1
  have HR := Aside0.mk hr
  have HS := Aside0.mk (tiesE_ok h)
  have HE := Aside0.mk h
  obtain ⟨G, hG⟩ : ∃ G, (sortI (groupsF anyT m l)).length = G := ⟨_, rfl⟩
  have hkk : (l.length : Int) - m + G = k := by rw [← hG, sortI_len]; exact hk
  have HG := Aside0.mk hG
  have hp : wrap64 (2 ^ k) = ((2 ^ k : Nat) : Int) := by rw [wrap64_two (by omega), pow_cast]
  obtain ⟨P, hP⟩ : ∃ P, 2 ^ k = P := ⟨_, rfl⟩
  rw [hP] at hp ⊢
  clear hr h hk hG hP
  go_enter Try.func32, Try.ntmps32
  go_wp2_with (first
    | (go_at_call 46; refine (read_good HR.out HE.out).mono ?_; rintro e w1 ⟨rfl, hb1⟩; have HB1 := Aside0.mk (below_alloc hb1 (.cells #[.int .i64 (m : Int), .slice A l.length c] 59)); clear hb1)
    | (go_at_call 52; go_must (refine (groups_calls 60 anyT says_any m hm A c l HS.out (by omega) _ (Kd.C_below HR.out HB1.out)).mono ?_; rintro e w2 ⟨v2, rfl, hr2, hb2⟩; have HB2 := Aside0.mk (below_then HB1.out HB1.out.size hb2); obtain ⟨A2, c2, hv2, hc2, _⟩ := Kd.R_reads hr2; rw [HG.out] at hv2; subst hv2; clear hr2 hb2 hc2)))
  go_ret2
  rw [hp]
  exact ⟨rfl, HB2.out⟩
theorem feuds_Classes.calls (a0 : Int) (A1 : Option Addr) (c1 : Nat) (l1 : List S39) (r1 : Int) (r2 : Int) (w : World) (hr1 : Kd.C k39 w A1 l1.length l1) (_hc1 : l1.length ≤ c1) (h : feuds_Classes.f a0 l1 = some (r1, r2)) :
    Calls Try.prog 32 #[.int .i64 a0, .slice A1 l1.length c1] w fun e w' => e = .returned (.tuple #[.int .i64 r1, .int .i64 r2]) ∧ Below w.heap.size w w' := by
  unfold feuds_Classes.f at h
  by_cases h0 : tiesE a0 l1 = 0
  · rw [if_pos h0] at h
    have h1 := tiesE_parts h0
    obtain ⟨m, rfl⟩ : ∃ m : Nat, a0 = m := ⟨a0.toNat, by omega⟩
    rw [Int.toNat_natCast] at h
    by_cases hk : 0 ≤ classK m l1 ∧ classK m l1 ≤ 60
    · rw [if_pos hk] at h
      cases h
      exact Classes_good m A1 c1 l1 w hr1 h0 (classK m l1).toNat (by omega) (by omega)
    · rw [if_neg hk] at h; cases h
  · rw [if_neg h0] at h
    cases h
    exact Classes_err a0 A1 c1 l1 w hr1 _ rfl h0

/-! ### Clans -/
def bothB (t : S39) (x : Int) : Bool := x.toNat.testBit t.f0.toNat && x.toNat.testBit t.f1.toNat
def clashB (l : List S39) (G : List Int) (k : Nat) : Bool := (List.range k).any fun i => (l.getD i z39).f2 && G.any (bothB (l.getD i z39))
def clansF (n : Int) (l : List S39) : List Int × Int :=
  if tiesE n l = 0 then (if clashB l (sortI (groupsF friendB n.toNat l)) l.length = true then ([], 10) else (sortI (groupsF friendB n.toNat l), 0)) else ([], tiesE n l)
theorem clashB_succ (l : List S39) (G : List Int) (k : Nat) : clashB l G (k + 1) = (clashB l G k || ((l.getD k z39).f2 && G.any (bothB (l.getD k z39)))) := by
  unfold clashB
  rw [List.range_succ, List.any_append, List.any_cons, List.any_nil, Bool.or_false]

set_option maxRecDepth 100000 in
set_option maxHeartbeats 800000 in
theorem both_pred (a b : Nat) (f : Bool) (ha : a < 60) (hb : b < 60) (G : List Int) (hG : ∀ x ∈ G, 0 ≤ x ∧ x < 4611686018427387904) (g : Nat) (w : World) (hc : w.heap[g]? = some (.cells #[.int .i64 a, .int .i64 b, .bool f] 39 (0, 0))) :
    PredB 55 #[.pointer (some ⟨g, 0, none⟩)] (fun x => .int .i64 x) (bothB ⟨a, b, f⟩) G w := by
  intro W x hx hbl
  obtain ⟨h0, h1⟩ := hG x hx
  obtain ⟨y, rfl⟩ := Int.eq_ofNat_of_zero_le h0
  obtain ⟨c0, c1, _, _, _, _⟩ := cells3 ((hbl.block _ (blk_lt hc)).trans hc)
  have HB := Aside0.mk hbl
  have ea := bit_ask (y := y) (k := a) (by omega) (by omega)
  have eb := bit_ask (y := y) (k := b) (by omega) (by omega)
  have hv : bothB ⟨a, b, f⟩ (y : Int) = (y.testBit a && y.testBit b) := by unfold bothB; dsimp only; rw [Int.toNat_natCast, Int.toNat_natCast, Int.toNat_natCast]
  rw [hv]
  show Calls Try.prog 55 #[.int .i64 y, .pointer (some ⟨g, 0, none⟩)] W fun e w' => e = .returned (.bool (y.testBit a && y.testBit b)) ∧ Below w.heap.size w w'
  clear hbl hc hx hG hv
  cases h1 : y.testBit a with
  | false =>
    rw [h1] at ea
    go_enter Try.func55, Try.ntmps55
    go_wp2
    go_ret
    exact ⟨rfl, HB.out⟩
  | true =>
    rw [h1] at ea
    go_enter Try.func55, Try.ntmps55
    go_wp2
    go_ret
    exact ⟨rfl, HB.out⟩
end Go.Proofs.Ytaegldcifhgnmaa.A

/- Clans: its walk. -/
namespace Go.Proofs.Ytaegldcifhgnmaa.A
open Go.RowKit Go.Proofs.YtaegldcifhgnmaaW.PrintWords Go.Proofs.YtaegldcifhgnmaaW.PrintMore

theorem groupsL_mem {q : S39 → Bool} {n : Nat} {l : List S39} (hl : okN n l) : ∀ (f left : Nat), left < 2 ^ n → ∀ x ∈ groupsL q n l f left, ∃ y : Nat, x = y ∧ y < 2 ^ n
  | 0, _, _, x, hx => by cases hx
  | f + 1, left, h, x, hx => by
    rw [groupsL] at hx
    by_cases h0 : left = 0
    · rw [if_pos h0] at hx; cases hx
    · rw [if_neg h0] at hx
      rcases List.mem_cons.1 hx with rfl | hx
      · exact ⟨_, rfl, spread_lt hl (lowB_lt h) n⟩
      · exact groupsL_mem hl f _ (less_lt h) x hx
theorem groupsF_mem {q : S39 → Bool} {n : Nat} {l : List S39} (hl : okN n l) {x : Int} (hx : x ∈ groupsF q n l) : ∃ y : Nat, x = y ∧ y < 2 ^ n :=
  groupsL_mem hl _ _ (by have := Nat.two_pow_pos n; omega) x hx
theorem sortI_mem {l : List Int} {x : Int} : x ∈ sortI l ↔ x ∈ l := List.mem_mergeSort

set_option maxRecDepth 100000 in
set_option maxHeartbeats 800000 in
theorem Clans_err (n : Int) (A : Option Addr) (c : Nat) (l : List S39) (w : World) (hr : Kd.C k39 w A l.length l) (E : Int) (h : tiesE n l = E) (h0 : E ≠ 0) :
    Calls Try.prog 26 #[.int .i64 n, .slice A l.length c] w (FoundPost ([], E) w) := by
  have HR := Aside0.mk hr
  have HE := Aside0.mk h
  have hg := errne h0
  have H0 := Aside0.mk h0
  clear hr h h0
  go_enter Try.func26, Try.ntmps26
  go_wp2_with (go_at_call 46; refine (read_err HR.out HE.out H0.out).mono ?_; rintro e w' ⟨rfl, hb'⟩; have HB := Aside0.mk hb'; clear hb')
  go_ret2
  exact ⟨_, rfl, Kd.R_nil _ _ _ _ _, below_alloc HB.out _⟩

set_option maxRecDepth 100000 in
set_option maxHeartbeats 1600000 in
theorem Clans_good (m : Nat) (A : Option Addr) (c : Nat) (l : List S39) (w : World) (hr : Kd.C k39 w A l.length l) (h : tiesE m l = 0) (G : List Int) (hG : sortI (groupsF friendB m l) = G) (Z : List Int × Int) (hZ : (if clashB l G l.length = true then ([], 10) else (G, 0)) = Z) :
    Calls Try.prog 26 #[.int .i64 m, .slice A l.length c] w (FoundPost Z w) := by
  have HZ := Aside0.mk hZ
  clear hZ
  have hm : m ≤ 8 := by have := (tiesE_parts h).1; omega
  have hl20 : l.length ≤ 20 := (tiesE_parts h).2.1
  have HR := Aside0.mk hr
  have HS := Aside0.mk (tiesE_ok h)
  have HSM := Aside0.mk (tiesE_small h)
  have HE := Aside0.mk h
  have HG := Aside0.mk hG
  have HM : Aside0 (∀ x ∈ G, 0 ≤ x ∧ x < 4611686018427387904) := ⟨fun x hx => by
    rw [← hG, sortI_mem] at hx
    obtain ⟨y, rfl, hy⟩ := groupsF_mem (tiesE_ok h) hx
    have := pow8 hm
    omega⟩
  clear hr h hG
  go_enter Try.func26, Try.ntmps26
  go_wp2_with (first
    | (go_at_call 46; refine (read_good HR.out HE.out).mono ?_; rintro e w1 ⟨rfl, hb1⟩; have HB1 := Aside0.mk (below_alloc hb1 (.cells #[.int .i64 (m : Int), .slice A l.length c] 59)); clear hb1)
    | (go_at_call 52; go_must (refine (groups_calls 53 friendB says_friend m hm A c l HS.out (by omega) _ (Kd.C_below HR.out HB1.out)).mono ?_; rw [HG.out]; rintro e w2 ⟨v2, rfl, hr2, hb2⟩; obtain ⟨A2, c2, rfl, hc2, _⟩ := Kd.R_reads hr2; have HI0 : Aside0 (Below w.heap.size w w2 ∧ Kd.R (Kd.int .i64) 3 w2 w.heap.size (fun _ => True) (.slice A2 G.length c2) G) := ⟨below_then HB1.out HB1.out.size hb2, Kd.R_lower hr2 HB1.out.size⟩; clear hr2 hb2 hc2)))
  go_loopg [10, 24] l.length (fun gg _ v24 wr => ∃ i : Nat, i ≤ l.length ∧ l.length - i ≤ gg ∧ v24 = .int .i64 i ∧ Aside0 (Below w.heap.size w wr ∧ Kd.R (Kd.int .i64) 3 wr w.heap.size (fun _ => True) (.slice A2 G.length c2) G) ∧ Aside0 (clashB l G i = false))
  case atStart => exact ⟨0, Nat.zero_le _, by omega, rfl, HI0, ⟨rfl⟩⟩
  case round =>
    clear HI0
    obtain ⟨i, hi, hgg, rfl, HI, HC⟩ := hrel
    by_cases hlt : i < l.length
    · have hltz : (i : Int) < (l.length : Int) := by omega
      obtain ⟨ad, rfl, hx0, hx1, hx2⟩ := at_T39 (Kd.C_below HR.out HI.out.1) (i : Int) (by omega) (by omega)
      rw [Int.toNat_natCast] at hx0 hx1 hx2
      have hrd : rd_T39 l (i : Int) = l.getD i z39 := by simp [rd_T39]
      rw [hrd] at hx0 hx1 hx2
      have hts := HSM.out _ (getD_mem z39 hlt)
      have hsu := clashB_succ l G i
      generalize hy : l.getD i z39 = t at hx0 hx1 hx2 hts hsu
      obtain ⟨a, b, f⟩ := t
      dsimp only at hx0 hx1 hx2 hts
      obtain ⟨h1, h2, h3, h4⟩ := hts
      obtain ⟨a, rfl⟩ := Int.eq_ofNat_of_zero_le h1
      obtain ⟨b, rfl⟩ := Int.eq_ofNat_of_zero_le h3
      have HSU := Aside0.mk hsu
      have HY := Aside0.mk hy
      have hb8 : Aside0 (Below wr.heap.size wr (wr.alloc (.cells #[.int .i64 a, .int .i64 b, .bool f] 39))) := ⟨below_alloc (Below.refl _ _) _⟩
      have hc8 : Aside0 ((wr.alloc (.cells #[.int .i64 a, .int .i64 b, .bool f] 39)).heap[wr.heap.size]? = some (.cells #[.int .i64 a, .int .i64 b, .bool f] 39 (0, 0))) := ⟨heap_alloc_new _ _⟩
      clear hrd hy hsu h1 h3
      cases f with
      | false =>
        go_wp2
        go_roundg (l.length - (i + 1))
        case measure => omega
        case rel => exact ⟨i + 1, by omega, by omega, by go_num, ⟨below_then HI.out.1 HI.out.1.size hb8.out, Kd.R_below HI.out.2 hb8.out⟩, ⟨by rw [HSU.out, HC.out]; rfl⟩⟩
      | true =>
        have hrr := Aside0.mk (Kd.R_reads' HI.out.2).2.2
        cases hq : G.any (bothB ⟨a, b, true⟩) with
        | false =>
          have HQ := Aside0.mk hq
          clear hq
          go_wp2_with (go_at_call 54; go_must (refine (ContainsFunc_int 55 #[.pointer (some ⟨wr.heap.size, 0, none⟩)] (bothB ⟨a, b, true⟩) enters55 A2 G.length c2 G _ (Kd.C_below hrr.out hb8.out) (both_pred a b true (by omega) (by omega) G HM.out wr.heap.size _ hc8.out)).mono ?_; rw [HQ.out]; rintro e w3 ⟨rfl, hb3⟩; have HB3 := Aside0.mk (below_then hb8.out hb8.out.size hb3); clear hb3))
          go_roundg (l.length - (i + 1))
          case measure => omega
          case rel => exact ⟨i + 1, by omega, by omega, by go_num, ⟨below_then HI.out.1 HI.out.1.size HB3.out, Kd.R_below HI.out.2 HB3.out⟩, ⟨by rw [HSU.out, HC.out, HQ.out]; rfl⟩⟩
        | true =>
          have HQ := Aside0.mk hq
          have HCL : Aside0 (clashB l G l.length = true) := ⟨by
            unfold clashB
            rw [List.any_eq_true]
            refine ⟨i, List.mem_range.2 hlt, ?_⟩
            rw [HY.out, hq]; rfl⟩
          clear hq
          go_wp2_with (go_at_call 54; go_must (refine (ContainsFunc_int 55 #[.pointer (some ⟨wr.heap.size, 0, none⟩)] (bothB ⟨a, b, true⟩) enters55 A2 G.length c2 G _ (Kd.C_below hrr.out hb8.out) (both_pred a b true (by omega) (by omega) G HM.out wr.heap.size _ hc8.out)).mono ?_; rw [HQ.out]; rintro e w3 ⟨rfl, hb3⟩; have HB3 := Aside0.mk (below_then hb8.out hb8.out.size hb3); clear hb3))
          go_ret2
          rw [← HZ.out, if_pos HCL.out]
          exact ⟨_, rfl, Kd.R_nil _ _ _ _ _, below_then HI.out.1 HI.out.1.size HB3.out⟩
    · have hltz : ¬ (i : Int) < (l.length : Int) := by omega
      have hie : i = l.length := by omega
      have HCL : Aside0 (¬ clashB l G l.length = true) := ⟨by rw [← hie, HC.out]; simp⟩
      clear hie
      go_wp2
      go_ret2
      rw [← HZ.out, if_neg HCL.out]
      exact ⟨_, rfl, HI.out.2, HI.out.1⟩

def feuds_Clans.f (a0 : Int) (l1 : List S39) : Option (List Int × Int) := some (clansF a0 l1)
theorem feuds_Clans.calls (a0 : Int) (A1 : Option Addr) (c1 : Nat) (l1 : List S39) (r1 : List Int) (r2 : Int) (w : World) (hr1 : Kd.C k39 w A1 l1.length l1) (_hc1 : l1.length ≤ c1) (h : feuds_Clans.f a0 l1 = some (r1, r2)) :
    Calls Try.prog 26 #[.int .i64 a0, .slice A1 l1.length c1] w fun e w' => ∃ v0_ : Value, e = .returned (.tuple #[v0_, .int .i64 r2]) ∧ Kd.R (Kd.int .i64) 3 w' w.heap.size (fun _ => True) v0_ r1 ∧ Below w.heap.size w w' := by
  have h := Option.some.inj h
  have : Calls Try.prog 26 #[.int .i64 a0, .slice A1 l1.length c1] w (FoundPost (clansF a0 l1) w) := by
    unfold clansF
    by_cases h0 : tiesE a0 l1 = 0
    · have h1 := tiesE_parts h0
      obtain ⟨m, rfl⟩ : ∃ m : Nat, a0 = m := ⟨a0.toNat, by omega⟩
      rw [if_pos h0, Int.toNat_natCast]
      exact Clans_good m A1 c1 l1 w hr1 h0 _ rfl _ rfl
    · rw [if_neg h0]
      exact Clans_err a0 A1 c1 l1 w hr1 _ rfl h0
  rw [h] at this
  exact this
end Go.Proofs.Ytaegldcifhgnmaa.A

/- What the program returns for three drovers, all at feud. -/
namespace Go.Proofs.Ytaegldcifhgnmaa.A
open Go.RowKit Go.Proofs.YtaegldcifhgnmaaW.PrintWords Go.Proofs.YtaegldcifhgnmaaW.PrintMore

def threeL : List S39 := [⟨0, 1, true⟩, ⟨0, 2, true⟩, ⟨1, 2, true⟩]
def twoL : List S39 := [⟨0, 1, false⟩, ⟨0, 2, true⟩]
theorem three_Sides : feuds_Sides.f 3 threeL = some (0, 10) := by decide +kernel
theorem three_Ring : feuds_Ring.f 3 threeL = some ([0, 1, 2], 0) := by decide +kernel
theorem three_Least : feuds_Least.f 3 threeL = some (1, [2], 0) := by decide +kernel
theorem three_groups : groupsF friendB 3 threeL = [1, 2, 4] := by decide +kernel
theorem sort_124 : sortI [1, 2, 4] = [1, 2, 4] := by
  unfold sortI
  refine List.mergeSort_of_pairwise ?_
  simp
theorem three_Clans : feuds_Clans.f 3 threeL = some ([1, 2, 4], 0) := by
  have h0 : tiesE 3 threeL = 0 := by decide +kernel
  have h1 : clashB threeL [1, 2, 4] threeL.length = false := by decide +kernel
  unfold feuds_Clans.f clansF
  rw [if_pos h0, show (3 : Int).toNat = 3 from rfl, three_groups, sort_124, h1]
  rfl
theorem three_Classes : feuds_Classes.f 3 threeL = some (2, 0) := by decide +kernel
theorem two_Sides : feuds_Sides.f 3 twoL = some (3, 0) := by decide +kernel
end Go.Proofs.Ytaegldcifhgnmaa.A

/- The law package's own small functions and the reference's Ties, as the kit's print writes them. -/
namespace Go.Proofs.Ytaegldcifhgnmaa.B
open Go.Proofs.Ytaegldcifhgnmaa.A
open Go.RowKit Go.Proofs.YtaegldcifhgnmaaW.PrintWords Go.Proofs.YtaegldcifhgnmaaW.PrintLast Go.Proofs.YtaegldcifhgnmaaW.PrintMore
section
attribute [local go_sem] max2_int min2_int max_two min_two max_three min_three max_four min_four   -- for this text's walks alone
set_option linter.unusedVariables false
set_option linter.unusedSimpArgs false
def errW : Option Int → Value
  | none => .nilIface
  | some c => .iface 0 (.int .i64 c)
theorem errW_none : errW none = .nilIface := rfl
theorem errW_some (c : Int) : errW (some c) = .iface 0 (.int .i64 c) := rfl

/-! ### drovewaylaw09_few: function 16 -/
def drovewaylaw09_few.f (l0 : List (S39)) (l1 : List Int) : Option (Bool) := if (l0.length : Int) ≤ 60 then (some (decide ((l1.length : Int) ≤ 60))) else (some false)
set_option maxHeartbeats 8000000 in
set_option maxRecDepth 100000 in
theorem drovewaylaw09_few.calls (A0 : Option Addr) (c0 : Nat) (l0 : List (S39)) (A1 : Option Addr) (c1 : Nat) (l1 : List Int) (r : Bool) (w : World) (hr0 : Kd.C k39 w A0 l0.length l0) (hc0 : l0.length ≤ c0) (hr1 : Kd.C (Kd.int .i64) w A1 l1.length l1) (hc1 : l1.length ≤ c1) (h : drovewaylaw09_few.f l0 l1 = some r) :
    Calls Try.prog 16 #[.slice A0 l0.length c0, .slice A1 l1.length c1] w fun e w' => e = .returned (.bool r) ∧ Drawn0 w w' := by
  have HR0 := Aside0.mk hr0
  have HC0 := Aside0.mk hc0
  clear hr0 hc0
  have HR1 := Aside0.mk hr1
  have HC1 := Aside0.mk hc1
  clear hr1 hc1
  have H : (if (l0.length : Int) ≤ 60 then (some (decide ((l1.length : Int) ≤ 60))) else (some false)) = some r := h
  clear h
  by_cases c3 : (l0.length : Int) ≤ 60
  · rw [if_pos c3] at H
    have c3b0 : decide ((l0.length : Int) ≤ 60) = true := decide_eq_true c3
    have c3b1 : decide (l0.length ≤ 60) = true := decide_eq_true (by omega)
    clear c3
    obtain rfl := Option.some.inj H
    go_enter Try.func16, Try.ntmps16
    go_wp2
    go_ret
    exact ⟨by first | rfl | (simp; done) | (simp [*]; done), by repeat (first | exact Drawn0.refl _ | apply Drawn0.step)⟩
  · rw [if_neg c3] at H
    have c3b0 : decide ((l0.length : Int) ≤ 60) = false := decide_eq_false c3
    have c3b1 : decide (l0.length ≤ 60) = false := decide_eq_false (by omega)
    clear c3
    obtain rfl := Option.some.inj H
    go_enter Try.func16, Try.ntmps16
    go_wp2
    go_ret
    exact ⟨by first | rfl | (simp; done) | (simp [*]; done), by repeat (first | exact Drawn0.refl _ | apply Drawn0.step)⟩

-- by hand: function 18 (feuds_Sides)

-- by hand: function 20 (feuds_Ring)

/-! ### drovewaylaw09_same: function 22 -/
def drovewaylaw09_same.l0 : Nat → List Int → List Int → Int → Option (Bool)
  | 0, _, _, _ => none
  | k + 1, x0, x1, x5 => if x5 < (x0.length : Int) then (if 0 ≤ x5 then (if x5 < (x1.length : Int) then (if (rd x0 x5) = (rd x1 x5) then (drovewaylaw09_same.l0 k x0 x1 (wrap64 (x5 + 1))) else (some false)) else (none)) else (none)) else (some true)
def drovewaylaw09_same.f (k : Nat) (l0 : List Int) (l1 : List Int) : Option (Bool) := if (l0.length : Int) = (l1.length : Int) then (drovewaylaw09_same.l0 k l0 l1 0) else (some false)
theorem drovewaylaw09_same.mono_l : ∀ k, (∀ y0 y1 y2, LeO (drovewaylaw09_same.l0 k y0 y1 y2) (drovewaylaw09_same.l0 (k + 1) y0 y1 y2))
  | 0 => fun _ _ _ r h => by simp [drovewaylaw09_same.l0] at h
  | k + 1 => by
    have ih0 := drovewaylaw09_same.mono_l k
    · intro y0 y1 y2
      unfold drovewaylaw09_same.l0
      repeat' first
      | (with_reducible exact ih0 _ _ _)
      | (with_reducible exact LeO.refl _)
      | (with_reducible exact LeO.none _)
      | (with_reducible refine LeO.ite ?_ ?_)
      | (with_reducible refine LeO.bind ?_ (fun _ => ?_))
      | exact ih0 _ _ _
      | exact LeO.none _
      | refine LeO.ite ?_ ?_
      | refine LeO.bind ?_ (fun _ => ?_)
theorem drovewaylaw09_same.mono : ∀ a0 a1 k, LeO (drovewaylaw09_same.f k a0 a1) (drovewaylaw09_same.f (k + 1) a0 a1) := by
  intro a0 a1 k
  have ih0 := drovewaylaw09_same.mono_l k
  unfold drovewaylaw09_same.f
  repeat' first
      | (with_reducible exact ih0 _ _ _)
      | (with_reducible exact LeO.refl _)
      | (with_reducible exact LeO.none _)
      | (with_reducible refine LeO.ite ?_ ?_)
      | (with_reducible refine LeO.bind ?_ (fun _ => ?_))
      | exact ih0 _ _ _
      | exact LeO.none _
      | refine LeO.ite ?_ ?_
      | refine LeO.bind ?_ (fun _ => ?_)
set_option maxHeartbeats 8000000 in
set_option maxRecDepth 100000 in
theorem drovewaylaw09_same.calls (k : Nat) (A0 : Option Addr) (c0 : Nat) (l0 : List Int) (A1 : Option Addr) (c1 : Nat) (l1 : List Int) (r : Bool) (w : World) (hr0 : Kd.C (Kd.int .i64) w A0 l0.length l0) (hc0 : l0.length ≤ c0) (hr1 : Kd.C (Kd.int .i64) w A1 l1.length l1) (hc1 : l1.length ≤ c1) (h : drovewaylaw09_same.f k l0 l1 = some r) :
    Calls Try.prog 22 #[.slice A0 l0.length c0, .slice A1 l1.length c1] w fun e w' => e = .returned (.bool r) ∧ Drawn0 w w' := by
  have HR0 := Aside0.mk hr0
  have HC0 := Aside0.mk hc0
  clear hr0 hc0
  have HR1 := Aside0.mk hr1
  have HC1 := Aside0.mk hc1
  clear hr1 hc1
  have H : (if (l0.length : Int) = (l1.length : Int) then (drovewaylaw09_same.l0 k l0 l1 0) else (some false)) = some r := h
  clear h
  by_cases c3 : (l0.length : Int) = (l1.length : Int)
  · rw [if_pos c3] at H
    have c3b0 : ((l0.length : Int) == (l1.length : Int)) = true := beq_iff_eq.mpr c3
    have c3b1 : ((l0.length : Int) != (l1.length : Int)) = false := bne_eq_false_iff_eq.mpr c3
    have c3b2 : (l0.length == l1.length) = true := by first | simpa using c3 | (simp at c3 ⊢; omega)
    clear c3
    have H' := Aside0.mk H
    clear H
    go_enter Try.func22, Try.ntmps22
    go_wp2
    repeat (go_quiet (fail); try go_wp2)
    go_loopg [5] k (fun kq v5 w' => ∃ (x5_1 : Int), v5 = .int .i64 x5_1 ∧ Aside0 (drovewaylaw09_same.l0 kq l0 l1 x5_1 = some r) ∧ Aside0 (kq ≤ k) ∧ Drawn0 w w')
    case atStart => exact ⟨(0), (by first | rfl | (simp; done) | (simp [*]; done)), H', ⟨Nat.le_refl _⟩, by repeat (first | exact Drawn0.refl _ | apply Drawn0.step)⟩
    case round =>
      clear H'
      try clear c1
      try clear c2
      try clear p2
      try clear c3
      try clear c3b0
      try clear c3b1
      try clear c3b2
      obtain ⟨x5_1, rfl, HA, HK1, ⟨m1, rfl⟩⟩ := hrel
      cases gk with
      | zero => exact absurd HA.out (by simp [drovewaylaw09_same.l0])
      | succ k1 =>
        have H := HA.out
        clear HA
        simp only [drovewaylaw09_same.l0] at H
        by_cases c4 : x5_1 < (l0.length : Int)
        · rw [if_pos c4] at H
          have c4b0 : decide (x5_1 < (l0.length : Int)) = true := decide_eq_true c4
          clear c4
          by_cases c5 : 0 ≤ x5_1
          · rw [if_pos c5] at H
            have c5b0 : decide (0 ≤ x5_1) = true := decide_eq_true c5
            clear c5
            by_cases c6 : x5_1 < (l1.length : Int)
            · rw [if_pos c6] at H
              have c6b0 : decide (x5_1 < (l1.length : Int)) = true := decide_eq_true c6
              clear c6
              by_cases c7 : (rd l0 x5_1) = (rd l1 x5_1)
              · rw [if_pos c7] at H
                have c7b0 : ((rd l0 x5_1) == (rd l1 x5_1)) = true := beq_iff_eq.mpr c7
                have c7b1 : ((rd l0 x5_1) != (rd l1 x5_1)) = false := bne_eq_false_iff_eq.mpr c7
                clear c7
                have H' := Aside0.mk H
                clear H
                have p101 : 0 ≤ (x5_1 : Int) := of_decide_eq_true (by first | (with_reducible assumption) | assumption)
                have q101 : x5_1 < (l0.length : Int) := of_decide_eq_true (by first | (with_reducible assumption) | assumption)
                obtain ⟨ad101, e101, hx101_0⟩ := Kd.at_int HR0.out x5_1 p101 q101
                cases e101
                replace p101 := eq_true p101
                replace q101 := eq_true q101
                have p102 : 0 ≤ (x5_1 : Int) := of_decide_eq_true (by first | (with_reducible assumption) | assumption)
                have q102 : x5_1 < (l1.length : Int) := of_decide_eq_true (by first | (with_reducible assumption) | assumption)
                obtain ⟨ad102, e102, hx102_0⟩ := Kd.at_int HR1.out x5_1 p102 q102
                cases e102
                replace p102 := eq_true p102
                replace q102 := eq_true q102
                go_wp2
                repeat (go_quiet (fail); try go_wp2)
                go_roundg k1
                case measure => have := HK1.out; omega
                case rel => exact ⟨(wrap64 (x5_1 + 1)), (by first | rfl | (simp; done) | (simp [*]; done)), H', ⟨by have := HK1.out; omega⟩, by repeat (first | exact Drawn0.refl _ | apply Drawn0.step)⟩
              · rw [if_neg c7] at H
                have c7b0 : ((rd l0 x5_1) == (rd l1 x5_1)) = false := beq_eq_false_iff_ne.mpr c7
                have c7b1 : ((rd l0 x5_1) != (rd l1 x5_1)) = true := bne_iff_ne.mpr c7
                obtain rfl := Option.some.inj H
                have p101 : 0 ≤ (x5_1 : Int) := of_decide_eq_true (by first | (with_reducible assumption) | assumption)
                have q101 : x5_1 < (l0.length : Int) := of_decide_eq_true (by first | (with_reducible assumption) | assumption)
                obtain ⟨ad101, e101, hx101_0⟩ := Kd.at_int HR0.out x5_1 p101 q101
                cases e101
                replace p101 := eq_true p101
                replace q101 := eq_true q101
                have p102 : 0 ≤ (x5_1 : Int) := of_decide_eq_true (by first | (with_reducible assumption) | assumption)
                have q102 : x5_1 < (l1.length : Int) := of_decide_eq_true (by first | (with_reducible assumption) | assumption)
                obtain ⟨ad102, e102, hx102_0⟩ := Kd.at_int HR1.out x5_1 p102 q102
                cases e102
                replace p102 := eq_true p102
                replace q102 := eq_true q102
                go_wp2
                repeat (go_quiet (fail); try go_wp2)
                go_ret
                exact ⟨by first | rfl | (simp; done) | (simp [*]; done), by repeat (first | exact Drawn0.refl _ | apply Drawn0.step)⟩
            · rw [if_neg c6] at H
              exact absurd H (by simp)
          · rw [if_neg c5] at H
            exact absurd H (by simp)
        · rw [if_neg c4] at H
          have c4b0 : decide (x5_1 < (l0.length : Int)) = false := decide_eq_false c4
          clear c4
          obtain rfl := Option.some.inj H
          go_wp2
          repeat (go_quiet (fail); try go_wp2)
          go_ret
          exact ⟨by first | rfl | (simp; done) | (simp [*]; done), by repeat (first | exact Drawn0.refl _ | apply Drawn0.step)⟩
  · rw [if_neg c3] at H
    have c3b0 : ((l0.length : Int) == (l1.length : Int)) = false := beq_eq_false_iff_ne.mpr c3
    have c3b1 : ((l0.length : Int) != (l1.length : Int)) = true := bne_iff_ne.mpr c3
    have c3b2 : (l0.length == l1.length) = false := by first | simpa using c3 | (simp at c3 ⊢; omega)
    obtain rfl := Option.some.inj H
    go_enter Try.func22, Try.ntmps22
    go_wp2
    repeat (go_quiet (fail); try go_wp2)
    go_ret
    exact ⟨by first | rfl | (simp; done) | (simp [*]; done), by repeat (first | exact Drawn0.refl _ | apply Drawn0.step)⟩

-- by hand: function 25 (feuds_Least)

-- by hand: function 26 (feuds_Clans)

-- by hand: function 32 (feuds_Classes)

/-! ### drovewaylaw09_three: function 45 -/
def drovewaylaw09_three.f  : Option ((List (S39))) := some (([(⟨0, 1, true⟩ : S39), (⟨0, 2, true⟩ : S39), (⟨1, 2, true⟩ : S39)] : List (S39)))
set_option maxHeartbeats 8000000 in
set_option maxRecDepth 100000 in
theorem drovewaylaw09_three.calls  (r : List (S39)) (w : World) (h : drovewaylaw09_three.f  = some r) :
    Calls Try.prog 45 #[] w fun e w' => ∃ v0_ : Value, e = .returned (v0_) ∧ Kd.R k39 39 w' w.heap.size (fun _ => True) v0_ r ∧ Below w.heap.size w w' := by
  have hu39 := Try.underlying39
  have HB := Aside0.mk (Below.refl w.heap.size w)
  have H : (some (([(⟨0, 1, true⟩ : S39), (⟨0, 2, true⟩ : S39), (⟨1, 2, true⟩ : S39)] : List (S39)))) = some r := h
  clear h
  obtain ⟨y103, hy103⟩ : ∃ y_ : List (S39), y_ = (([(⟨0, 1, true⟩ : S39), (⟨0, 2, true⟩ : S39), (⟨1, 2, true⟩ : S39)] : List (S39))) := ⟨_, rfl⟩
  replace H : (some y103) = some r := by first | (rw [hy103]; with_reducible exact H) | (have H2_ := (Option.bind_some _ _).symm.trans H; rw [hy103]; with_reducible exact H2_) | (have H2_ := (Option.bind_some _ _).symm.trans H; with_reducible exact H2_) | with_reducible exact H | (rw [hy103]; exact H) | exact H
  have Ny103 := Aside0.mk hy103
  clear hy103
  obtain rfl := Option.some.inj H
  go_enter Try.func45, Try.ntmps45
  go_wp2_with (first | ((with_reducible refine gate_dst (N := 4) rfl ?_); refine Kd.R_lit k39 _ 39 ?hg (N := 4) ?hd (xs := ([(⟨0, 1, true⟩ : S39), (⟨0, 2, true⟩ : S39), (⟨1, 2, true⟩ : S39)] : List (S39))) (inner := [.int .i64 0, .int .i64 1, .bool true, .int .i64 0, .int .i64 2, .bool true, .int .i64 1, .int .i64 2, .bool true]) (ok := fun _ => True) (okp := fun _ => True) ?hr ?hp (fun _ hk => hk) trivial (Below.refl _ _) (Nat.le_refl _) (by simp) ?_; (case hd => rfl); (case hg => rfl); (case hr => first | (go_simp; done) | (go_simp; rfl)); (case hp => exact (Reps.c3 (show Kd.M k39 _ _ _ (⟨0, 1, true⟩ : S39) [.int .i64 0, .int .i64 1, .bool true] from (k39_mkM _ _ _ (⟨0, 1, true⟩ : S39) )) (Reps.c3 (show Kd.M k39 _ _ _ (⟨0, 2, true⟩ : S39) [.int .i64 0, .int .i64 2, .bool true] from (k39_mkM _ _ _ (⟨0, 2, true⟩ : S39) )) (Reps.c3 (show Kd.M k39 _ _ _ (⟨1, 2, true⟩ : S39) [.int .i64 1, .int .i64 2, .bool true] from (k39_mkM _ _ _ (⟨1, 2, true⟩ : S39) )) (Reps.none _ _))))); intro v104 w1 ho2 hb hg_ hnew_; clear hg_ hnew_; (first | rw [← Ny103.out] at ho2 | (simp only [Int.reduceToNat] at ho2; rw [← Ny103.out] at ho2)); have n0_ := Aside0.mk (Kd.R_lower ho2 (below_size (by repeat (first | (with_reducible first | exact HB.out | apply below_alloc | apply pw_below_drewN | apply below_drew1) | exact HB.out)))); have n1_ := Aside0.mk (below_step (by repeat (first | (with_reducible first | exact HB.out | apply below_alloc | apply pw_below_drewN | apply below_drew1) | exact HB.out)) hb); clear HB; have HO105 := n0_; have HB := n1_; clear n0_ n1_; clear hb ho2))
  go_ret
  exact ⟨_, by first | rfl | (simp [errW_none, errW_some] <;> rfl) | (simp [*, errW_none, errW_some] <;> rfl), by (with_reducible repeat (first | apply Kd.R_alloc | apply Kd.R_drewN | apply Kd.R_drew)); exact HO105.out, by repeat (first | (with_reducible first | exact HB.out | apply below_alloc | apply pw_below_drewN | apply below_drew1) | exact HB.out)⟩

-- NOT PRINTED: function 17 (drovewaylaw09_alive)

-- by hand: function 30 (feuds_Same)

/-! ### drovewayref09_Ties: function 24 -/
mutual
def drovewayref09_Ties.j0 : Nat → Int → List (S39) → Bool → Option (Int)
  | 0, _, _, _ => none
  | k + 1, x0, x1, x12 => if x12 = true then (some 2) else (if (x1.length : Int) > 20 then (some 3) else (drovewayref09_Ties.l0 k x0 x1 0))
def drovewayref09_Ties.l0 : Nat → Int → List (S39) → Int → Option (Int)
  | 0, _, _, _ => none
  | k + 1, x0, x1, x5 => if x5 < (x1.length : Int) then (if 0 ≤ x5 then (if ((rd_T39 x1 x5).f0) < 0 then (drovewayref09_Ties.j2 k x0 x1 x5 true) else (if ((rd_T39 x1 x5).f0) ≥ ((rd_T39 x1 x5).f1) then (drovewayref09_Ties.j2 k x0 x1 x5 true) else (drovewayref09_Ties.j2 k x0 x1 x5 (decide (((rd_T39 x1 x5).f1) ≥ x0))))) else (none)) else (some 0)
def drovewayref09_Ties.j2 : Nat → Int → List (S39) → Int → Bool → Option (Int)
  | 0, _, _, _, _ => none
  | k + 1, x0, x1, x5, x49 => if x49 = true then (some 2) else (drovewayref09_Ties.l1 k x0 x1 x5 0)
def drovewayref09_Ties.l1 : Nat → Int → List (S39) → Int → Int → Option (Int)
  | 0, _, _, _, _ => none
  | k + 1, x0, x1, x5, x6 => if x6 < x5 then (if 0 ≤ x6 then (if x6 < (x1.length : Int) then (if 0 ≤ x5 then (if x5 < (x1.length : Int) then (if ((rd_T39 x1 x6).f0) = ((rd_T39 x1 x5).f0) then (if ((rd_T39 x1 x6).f1) = ((rd_T39 x1 x5).f1) then (some 2) else (drovewayref09_Ties.l1 k x0 x1 x5 (wrap64 (x6 + 1)))) else (drovewayref09_Ties.l1 k x0 x1 x5 (wrap64 (x6 + 1)))) else (none)) else (none)) else (none)) else (none)) else (drovewayref09_Ties.l0 k x0 x1 (wrap64 (x5 + 1)))
end
def drovewayref09_Ties.f (k : Nat) (a0 : Int) (l1 : List (S39)) : Option (Int) := if a0 < 1 then (drovewayref09_Ties.j0 k a0 l1 true) else (drovewayref09_Ties.j0 k a0 l1 (decide (a0 > 8)))
theorem drovewayref09_Ties.mono_l : ∀ k, (∀ y0 y1 y2, LeO (drovewayref09_Ties.j0 k y0 y1 y2) (drovewayref09_Ties.j0 (k + 1) y0 y1 y2)) ∧ (∀ y0 y1 y2, LeO (drovewayref09_Ties.l0 k y0 y1 y2) (drovewayref09_Ties.l0 (k + 1) y0 y1 y2)) ∧ (∀ y0 y1 y2 y3, LeO (drovewayref09_Ties.j2 k y0 y1 y2 y3) (drovewayref09_Ties.j2 (k + 1) y0 y1 y2 y3)) ∧ (∀ y0 y1 y2 y3, LeO (drovewayref09_Ties.l1 k y0 y1 y2 y3) (drovewayref09_Ties.l1 (k + 1) y0 y1 y2 y3))
  | 0 => ⟨fun _ _ _ r h => by simp [drovewayref09_Ties.j0] at h, fun _ _ _ r h => by simp [drovewayref09_Ties.l0] at h, fun _ _ _ _ r h => by simp [drovewayref09_Ties.j2] at h, fun _ _ _ _ r h => by simp [drovewayref09_Ties.l1] at h⟩
  | k + 1 => by
    obtain ⟨ih0, ih1, ih2, ih3⟩ := drovewayref09_Ties.mono_l k
    refine ⟨?_, ?_, ?_, ?_⟩
    · intro y0 y1 y2
      unfold drovewayref09_Ties.j0
      repeat' first
      | (with_reducible exact ih0 _ _ _)
      | (with_reducible exact ih1 _ _ _)
      | (with_reducible exact ih2 _ _ _ _)
      | (with_reducible exact ih3 _ _ _ _)
      | (with_reducible exact LeO.refl _)
      | (with_reducible exact LeO.none _)
      | (with_reducible refine LeO.ite ?_ ?_)
      | (with_reducible refine LeO.bind ?_ (fun _ => ?_))
      | exact ih0 _ _ _
      | exact ih1 _ _ _
      | exact ih2 _ _ _ _
      | exact ih3 _ _ _ _
      | exact LeO.none _
      | refine LeO.ite ?_ ?_
      | refine LeO.bind ?_ (fun _ => ?_)
    · intro y0 y1 y2
      unfold drovewayref09_Ties.l0
      repeat' first
      | (with_reducible exact ih0 _ _ _)
      | (with_reducible exact ih1 _ _ _)
      | (with_reducible exact ih2 _ _ _ _)
      | (with_reducible exact ih3 _ _ _ _)
      | (with_reducible exact LeO.refl _)
      | (with_reducible exact LeO.none _)
      | (with_reducible refine LeO.ite ?_ ?_)
      | (with_reducible refine LeO.bind ?_ (fun _ => ?_))
      | exact ih0 _ _ _
      | exact ih1 _ _ _
      | exact ih2 _ _ _ _
      | exact ih3 _ _ _ _
      | exact LeO.none _
      | refine LeO.ite ?_ ?_
      | refine LeO.bind ?_ (fun _ => ?_)
    · intro y0 y1 y2 y3
      unfold drovewayref09_Ties.j2
      repeat' first
      | (with_reducible exact ih0 _ _ _)
      | (with_reducible exact ih1 _ _ _)
      | (with_reducible exact ih2 _ _ _ _)
      | (with_reducible exact ih3 _ _ _ _)
      | (with_reducible exact LeO.refl _)
      | (with_reducible exact LeO.none _)
      | (with_reducible refine LeO.ite ?_ ?_)
      | (with_reducible refine LeO.bind ?_ (fun _ => ?_))
      | exact ih0 _ _ _
      | exact ih1 _ _ _
      | exact ih2 _ _ _ _
      | exact ih3 _ _ _ _
      | exact LeO.none _
      | refine LeO.ite ?_ ?_
      | refine LeO.bind ?_ (fun _ => ?_)
    · intro y0 y1 y2 y3
      unfold drovewayref09_Ties.l1
      repeat' first
      | (with_reducible exact ih0 _ _ _)
      | (with_reducible exact ih1 _ _ _)
      | (with_reducible exact ih2 _ _ _ _)
      | (with_reducible exact ih3 _ _ _ _)
      | (with_reducible exact LeO.refl _)
      | (with_reducible exact LeO.none _)
      | (with_reducible refine LeO.ite ?_ ?_)
      | (with_reducible refine LeO.bind ?_ (fun _ => ?_))
      | exact ih0 _ _ _
      | exact ih1 _ _ _
      | exact ih2 _ _ _ _
      | exact ih3 _ _ _ _
      | exact LeO.none _
      | refine LeO.ite ?_ ?_
      | refine LeO.bind ?_ (fun _ => ?_)
theorem drovewayref09_Ties.mono : ∀ a0 a1 k, LeO (drovewayref09_Ties.f k a0 a1) (drovewayref09_Ties.f (k + 1) a0 a1) := by
  intro a0 a1 k
  obtain ⟨ih0, ih1, ih2, ih3⟩ := drovewayref09_Ties.mono_l k
  unfold drovewayref09_Ties.f
  repeat' first
      | (with_reducible exact ih0 _ _ _)
      | (with_reducible exact ih1 _ _ _)
      | (with_reducible exact ih2 _ _ _ _)
      | (with_reducible exact ih3 _ _ _ _)
      | (with_reducible exact LeO.refl _)
      | (with_reducible exact LeO.none _)
      | (with_reducible refine LeO.ite ?_ ?_)
      | (with_reducible refine LeO.bind ?_ (fun _ => ?_))
      | exact ih0 _ _ _
      | exact ih1 _ _ _
      | exact ih2 _ _ _ _
      | exact ih3 _ _ _ _
      | exact LeO.none _
      | refine LeO.ite ?_ ?_
      | refine LeO.bind ?_ (fun _ => ?_)
set_option maxHeartbeats 8000000 in
set_option maxRecDepth 100000 in
theorem drovewayref09_Ties.calls (k : Nat) (a0 : Int) (A1 : Option Addr) (c1 : Nat) (l1 : List (S39)) (r : Int) (w : World) (hr1 : Kd.C k39 w A1 l1.length l1) (hc1 : l1.length ≤ c1) (h : drovewayref09_Ties.f k a0 l1 = some r) :
    Calls Try.prog 24 #[.int .i64 a0, .slice A1 l1.length c1] w fun e w' => e = .returned (.int .i64 r) ∧ Drawn0 w w' := by
  have HR1 := Aside0.mk hr1
  have HC1 := Aside0.mk hc1
  clear hr1 hc1
  have H : (if a0 < 1 then (drovewayref09_Ties.j0 k a0 l1 true) else (drovewayref09_Ties.j0 k a0 l1 (decide (a0 > 8)))) = some r := h
  clear h
  have HC3 := Aside0.mk H
  clear H
  go_enter Try.func24, Try.ntmps24
  go_upto_region 1 with (fail)
  repeat (go_quiet (fail); go_upto_region 1 with (fail))
  go_cut [12] (fun v12 wc => ∃ (kq : Nat) (x12_2 : Bool), v12 = .bool x12_2 ∧ Aside0 (drovewayref09_Ties.j0 kq a0 l1 x12_2 = some r) ∧ Aside0 (kq ≤ k) ∧ Drawn0 w wc)
  case first =>
    have H := HC3.out
    clear HC3
    by_cases c4 : a0 < 1
    · rw [if_pos c4] at H
      have c4b0 : decide (a0 < 1) = true := decide_eq_true c4
      clear c4
      (first | rw [c4b0] | (simp only [i64_w, i32_w]; rw [c4b0]) | skip)
      have H' := Aside0.mk H
      clear H
      go_wp2
      repeat (go_quiet (fail); try go_wp2)
      go_meet
      case rel => exact ⟨_, (true), (by first | rfl | (simp; done) | (simp [*]; done)), H', ⟨by first | omega | exact Nat.le_refl _⟩, by repeat (first | exact Drawn0.refl _ | apply Drawn0.step)⟩
    · rw [if_neg c4] at H
      have c4b0 : decide (a0 < 1) = false := decide_eq_false c4
      clear c4
      (first | rw [c4b0] | (simp only [i64_w, i32_w]; rw [c4b0]) | skip)
      have H' := Aside0.mk H
      clear H
      go_wp2
      repeat (go_quiet (fail); try go_wp2)
      go_meet
      case rel => exact ⟨_, (decide (a0 > 8)), (by first | rfl | (simp; done) | (simp [*]; done)), H', ⟨by first | omega | exact Nat.le_refl _⟩, by repeat (first | exact Drawn0.refl _ | apply Drawn0.step)⟩
  case rest =>
    clear HC3
    try clear c1
    try clear c2
    try clear p2
    try clear c4
    try clear c4b0
    obtain ⟨kq, x12_2, rfl, HA, HJ2, ⟨mc2, rfl⟩⟩ := hcut
    cases kq with
    | zero => exact absurd HA.out (by simp [drovewayref09_Ties.j0])
    | succ kj2 =>
      have H := HA.out
      clear HA
      simp only [drovewayref09_Ties.j0] at H
      by_cases c5 : x12_2 = true
      · subst c5
        have H1 : (some 2) = some r := by rw [if_pos rfl] at H; exact H
        clear H
        have H := H1
        clear H1
        obtain rfl := Option.some.inj H
        go_wp2
        repeat (go_quiet (fail); try go_wp2)
        go_ret
        exact ⟨by first | rfl | (simp; done) | (simp [*]; done), by repeat (first | exact Drawn0.refl _ | apply Drawn0.step)⟩
      · replace c5 := Bool.eq_false_iff.mpr c5
        subst c5
        have H1 : (if (l1.length : Int) > 20 then (some 3) else (drovewayref09_Ties.l0 kj2 a0 l1 0)) = some r := by rw [if_neg (show ¬ (false = true) by decide)] at H; exact H
        clear H
        have H := H1
        clear H1
        by_cases c6 : (l1.length : Int) > 20
        · rw [if_pos c6] at H
          have c6b0 : decide (20 < (l1.length : Int)) = true := decide_eq_true c6
          have c6b1 : decide (20 < l1.length) = true := decide_eq_true (by omega)
          clear c6
          obtain rfl := Option.some.inj H
          go_wp2
          repeat (go_quiet (fail); try go_wp2)
          go_ret
          exact ⟨by first | rfl | (simp; done) | (simp [*]; done), by repeat (first | exact Drawn0.refl _ | apply Drawn0.step)⟩
        · rw [if_neg c6] at H
          have c6b0 : decide (20 < (l1.length : Int)) = false := decide_eq_false c6
          have c6b1 : decide (20 < l1.length) = false := decide_eq_false (by omega)
          clear c6
          have H' := Aside0.mk H
          clear H
          go_wp2
          repeat (go_quiet (fail); try go_wp2)
          go_loopg [5] kj2 (fun kq v5 w' => ∃ (x5_2 : Int), v5 = .int .i64 x5_2 ∧ Aside0 (drovewayref09_Ties.l0 kq a0 l1 x5_2 = some r) ∧ Aside0 (kq ≤ kj2) ∧ Drawn0 w w')
          case atStart => exact ⟨(0), (by first | rfl | (simp; done) | (simp [*]; done)), H', ⟨Nat.le_refl _⟩, by repeat (first | exact Drawn0.refl _ | apply Drawn0.step)⟩
          case round =>
            clear H'
            try clear c1
            try clear c2
            try clear p2
            try clear c4
            try clear c4b0
            try clear c5
            try clear c6
            try clear c6b0
            try clear c6b1
            try clear p2
            obtain ⟨x5_2, rfl, HA, HK2, ⟨m2, rfl⟩⟩ := hrel
            cases gk with
            | zero => exact absurd HA.out (by simp [drovewayref09_Ties.l0])
            | succ k2 =>
              have H := HA.out
              clear HA
              simp only [drovewayref09_Ties.l0] at H
              by_cases c7 : x5_2 < (l1.length : Int)
              · rw [if_pos c7] at H
                have c7b0 : decide (x5_2 < (l1.length : Int)) = true := decide_eq_true c7
                clear c7
                have HC8 := Aside0.mk H
                clear H
                go_upto_region 8 with (fail)
                repeat (go_quiet (fail); go_upto_region 8 with (fail))
                go_cut [49] (fun v49 wc => ∃ (kq : Nat) (x49_7 : Bool), v49 = .bool x49_7 ∧ Aside0 (drovewayref09_Ties.j2 kq a0 l1 x5_2 x49_7 = some r) ∧ Aside0 (kq ≤ k2) ∧ Drawn0 w wc)
                case first =>
                  have H := HC8.out
                  clear HC8
                  by_cases c9 : 0 ≤ x5_2
                  · rw [if_pos c9] at H
                    have c9b0 : decide (0 ≤ x5_2) = true := decide_eq_true c9
                    clear c9
                    (first | rw [c9b0] | (simp only [i64_w, i32_w]; rw [c9b0]) | skip)
                    by_cases c10 : ((rd_T39 l1 x5_2).f0) < 0
                    · rw [if_pos c10] at H
                      have c10b0 : decide (((rd_T39 l1 x5_2).f0) < 0) = true := decide_eq_true c10
                      clear c10
                      have H' := Aside0.mk H
                      clear H
                      have p155 : 0 ≤ (x5_2 : Int) := of_decide_eq_true (by first | (with_reducible assumption) | assumption)
                      have q155 : x5_2 < (l1.length : Int) := of_decide_eq_true (by first | (with_reducible assumption) | assumption)
                      obtain ⟨ad155, e155, hx155_0, hx155_1, hx155_2⟩ := at_T39 HR1.out x5_2 p155 q155
                      cases e155
                      replace p155 := eq_true p155
                      replace q155 := eq_true q155
                      go_wp2
                      repeat (go_quiet (fail); try go_wp2)
                      go_meet
                      case rel => exact ⟨_, (true), (by first | rfl | (simp; done) | (simp [*]; done)), H', ⟨by have := HJ2.out; have := HK2.out; first | omega | exact Nat.le_refl _⟩, by repeat (first | exact Drawn0.refl _ | apply Drawn0.step)⟩
                    · rw [if_neg c10] at H
                      have c10b0 : decide (((rd_T39 l1 x5_2).f0) < 0) = false := decide_eq_false c10
                      clear c10
                      by_cases c11 : ((rd_T39 l1 x5_2).f0) ≥ ((rd_T39 l1 x5_2).f1)
                      · rw [if_pos c11] at H
                        have c11b0 : decide (((rd_T39 l1 x5_2).f1) ≤ ((rd_T39 l1 x5_2).f0)) = true := decide_eq_true c11
                        clear c11
                        have H' := Aside0.mk H
                        clear H
                        have p155 : 0 ≤ (x5_2 : Int) := of_decide_eq_true (by first | (with_reducible assumption) | assumption)
                        have q155 : x5_2 < (l1.length : Int) := of_decide_eq_true (by first | (with_reducible assumption) | assumption)
                        obtain ⟨ad155, e155, hx155_0, hx155_1, hx155_2⟩ := at_T39 HR1.out x5_2 p155 q155
                        cases e155
                        replace p155 := eq_true p155
                        replace q155 := eq_true q155
                        have p156 : 0 ≤ (x5_2 : Int) := of_decide_eq_true (by first | (with_reducible assumption) | assumption)
                        have q156 : x5_2 < (l1.length : Int) := of_decide_eq_true (by first | (with_reducible assumption) | assumption)
                        obtain ⟨ad156, e156, hx156_0, hx156_1, hx156_2⟩ := at_T39 HR1.out x5_2 p156 q156
                        obtain rfl : ad155 = ad156 := (by injection e156)
                        replace p156 := eq_true p156
                        replace q156 := eq_true q156
                        have p157 : 0 ≤ (x5_2 : Int) := of_decide_eq_true (by first | (with_reducible assumption) | assumption)
                        have q157 : x5_2 < (l1.length : Int) := of_decide_eq_true (by first | (with_reducible assumption) | assumption)
                        obtain ⟨ad157, e157, hx157_0, hx157_1, hx157_2⟩ := at_T39 HR1.out x5_2 p157 q157
                        obtain rfl : ad155 = ad157 := (by injection e157)
                        replace p157 := eq_true p157
                        replace q157 := eq_true q157
                        go_wp2
                        repeat (go_quiet (fail); try go_wp2)
                        go_meet
                        case rel => exact ⟨_, (true), (by first | rfl | (simp; done) | (simp [*]; done)), H', ⟨by have := HJ2.out; have := HK2.out; first | omega | exact Nat.le_refl _⟩, by repeat (first | exact Drawn0.refl _ | apply Drawn0.step)⟩
                      · rw [if_neg c11] at H
                        have c11b0 : decide (((rd_T39 l1 x5_2).f1) ≤ ((rd_T39 l1 x5_2).f0)) = false := decide_eq_false c11
                        clear c11
                        have H' := Aside0.mk H
                        clear H
                        have p155 : 0 ≤ (x5_2 : Int) := of_decide_eq_true (by first | (with_reducible assumption) | assumption)
                        have q155 : x5_2 < (l1.length : Int) := of_decide_eq_true (by first | (with_reducible assumption) | assumption)
                        obtain ⟨ad155, e155, hx155_0, hx155_1, hx155_2⟩ := at_T39 HR1.out x5_2 p155 q155
                        cases e155
                        replace p155 := eq_true p155
                        replace q155 := eq_true q155
                        have p156 : 0 ≤ (x5_2 : Int) := of_decide_eq_true (by first | (with_reducible assumption) | assumption)
                        have q156 : x5_2 < (l1.length : Int) := of_decide_eq_true (by first | (with_reducible assumption) | assumption)
                        obtain ⟨ad156, e156, hx156_0, hx156_1, hx156_2⟩ := at_T39 HR1.out x5_2 p156 q156
                        obtain rfl : ad155 = ad156 := (by injection e156)
                        replace p156 := eq_true p156
                        replace q156 := eq_true q156
                        have p157 : 0 ≤ (x5_2 : Int) := of_decide_eq_true (by first | (with_reducible assumption) | assumption)
                        have q157 : x5_2 < (l1.length : Int) := of_decide_eq_true (by first | (with_reducible assumption) | assumption)
                        obtain ⟨ad157, e157, hx157_0, hx157_1, hx157_2⟩ := at_T39 HR1.out x5_2 p157 q157
                        obtain rfl : ad155 = ad157 := (by injection e157)
                        replace p157 := eq_true p157
                        replace q157 := eq_true q157
                        have p158 : 0 ≤ (x5_2 : Int) := of_decide_eq_true (by first | (with_reducible assumption) | assumption)
                        have q158 : x5_2 < (l1.length : Int) := of_decide_eq_true (by first | (with_reducible assumption) | assumption)
                        obtain ⟨ad158, e158, hx158_0, hx158_1, hx158_2⟩ := at_T39 HR1.out x5_2 p158 q158
                        obtain rfl : ad155 = ad158 := (by injection e158)
                        replace p158 := eq_true p158
                        replace q158 := eq_true q158
                        go_wp2
                        repeat (go_quiet (fail); try go_wp2)
                        go_meet
                        case rel => exact ⟨_, (decide (((rd_T39 l1 x5_2).f1) ≥ a0)), (by first | rfl | (simp; done) | (simp [*]; done)), H', ⟨by have := HJ2.out; have := HK2.out; first | omega | exact Nat.le_refl _⟩, by repeat (first | exact Drawn0.refl _ | apply Drawn0.step)⟩
                  · rw [if_neg c9] at H
                    exact absurd H (by simp)
                case rest =>
                  clear HC8
                  try clear c1
                  try clear p1
                  try clear q1
                  try clear hx1
                  try clear c2
                  try clear p2
                  try clear c4
                  try clear c4b0
                  try clear c5
                  try clear c6
                  try clear c6b0
                  try clear c6b1
                  try clear c7
                  try clear c7b0
                  try clear c9
                  try clear c9b0
                  try clear c10
                  try clear c10b0
                  try clear c11
                  try clear c11b0
                  try clear hx155_0
                  try clear hx155_1
                  try clear hx155_2
                  try clear hx156_0
                  try clear hx156_1
                  try clear hx156_2
                  try clear hx157_0
                  try clear hx157_1
                  try clear hx157_2
                  try clear hx158_0
                  try clear hx158_1
                  try clear hx158_2
                  try clear p155
                  try clear p156
                  try clear p157
                  try clear p158
                  try clear p2
                  try clear q155
                  try clear q156
                  try clear q157
                  try clear q158
                  obtain ⟨kq, x49_7, rfl, HA, HJ7, ⟨mc7, rfl⟩⟩ := hcut
                  cases kq with
                  | zero => exact absurd HA.out (by simp [drovewayref09_Ties.j2])
                  | succ kj7 =>
                    have H := HA.out
                    clear HA
                    simp only [drovewayref09_Ties.j2] at H
                    by_cases c12 : x49_7 = true
                    · subst c12
                      have H1 : (some 2) = some r := by rw [if_pos rfl] at H; exact H
                      clear H
                      have H := H1
                      clear H1
                      obtain rfl := Option.some.inj H
                      go_wp2
                      repeat (go_quiet (fail); try go_wp2)
                      go_ret
                      exact ⟨by first | rfl | (simp; done) | (simp [*]; done), by repeat (first | exact Drawn0.refl _ | apply Drawn0.step)⟩
                    · replace c12 := Bool.eq_false_iff.mpr c12
                      subst c12
                      have H1 : (drovewayref09_Ties.l1 kj7 a0 l1 x5_2 0) = some r := by rw [if_neg (show ¬ (false = true) by decide)] at H; exact H
                      clear H
                      have H := H1
                      clear H1
                      have H' := Aside0.mk H
                      clear H
                      go_wp2
                      repeat (go_quiet (fail); try go_wp2)
                      go_loopg [6] kj7 (fun kq v6 w' => ∃ (x6_4 : Int), v6 = .int .i64 x6_4 ∧ Aside0 (drovewayref09_Ties.l1 kq a0 l1 x5_2 x6_4 = some r) ∧ Aside0 (kq ≤ kj7) ∧ Drawn0 w w')
                      case atStart => exact ⟨(0), (by first | rfl | (simp; done) | (simp [*]; done)), H', ⟨Nat.le_refl _⟩, by repeat (first | exact Drawn0.refl _ | apply Drawn0.step)⟩
                      case round =>
                        clear H'
                        try clear c1
                        try clear p1
                        try clear q1
                        try clear hx1
                        try clear c2
                        try clear p2
                        try clear c4
                        try clear c4b0
                        try clear c5
                        try clear c6
                        try clear c6b0
                        try clear c6b1
                        try clear c7
                        try clear c7b0
                        try clear c9
                        try clear c9b0
                        try clear c10
                        try clear c10b0
                        try clear c11
                        try clear c11b0
                        try clear c12
                        try clear hx155_0
                        try clear hx155_1
                        try clear hx155_2
                        try clear hx156_0
                        try clear hx156_1
                        try clear hx156_2
                        try clear hx157_0
                        try clear hx157_1
                        try clear hx157_2
                        try clear hx158_0
                        try clear hx158_1
                        try clear hx158_2
                        try clear p1
                        try clear p155
                        try clear p156
                        try clear p157
                        try clear p158
                        try clear p2
                        try clear q1
                        try clear q155
                        try clear q156
                        try clear q157
                        try clear q158
                        obtain ⟨x6_4, rfl, HA, HK4, ⟨m4, rfl⟩⟩ := hrel
                        cases gk with
                        | zero => exact absurd HA.out (by simp [drovewayref09_Ties.l1])
                        | succ k4 =>
                          have H := HA.out
                          clear HA
                          simp only [drovewayref09_Ties.l1] at H
                          by_cases c13 : x6_4 < x5_2
                          · rw [if_pos c13] at H
                            have c13b0 : decide (x6_4 < x5_2) = true := decide_eq_true c13
                            clear c13
                            by_cases c14 : 0 ≤ x6_4
                            · rw [if_pos c14] at H
                              have c14b0 : decide (0 ≤ x6_4) = true := decide_eq_true c14
                              clear c14
                              by_cases c15 : x6_4 < (l1.length : Int)
                              · rw [if_pos c15] at H
                                have c15b0 : decide (x6_4 < (l1.length : Int)) = true := decide_eq_true c15
                                clear c15
                                by_cases c16 : 0 ≤ x5_2
                                · rw [if_pos c16] at H
                                  have c16b0 : decide (0 ≤ x5_2) = true := decide_eq_true c16
                                  clear c16
                                  by_cases c17 : x5_2 < (l1.length : Int)
                                  · rw [if_pos c17] at H
                                    have c17b0 : decide (x5_2 < (l1.length : Int)) = true := decide_eq_true c17
                                    clear c17
                                    by_cases c18 : ((rd_T39 l1 x6_4).f0) = ((rd_T39 l1 x5_2).f0)
                                    · rw [if_pos c18] at H
                                      have c18b0 : (((rd_T39 l1 x6_4).f0) == ((rd_T39 l1 x5_2).f0)) = true := beq_iff_eq.mpr c18
                                      have c18b1 : (((rd_T39 l1 x6_4).f0) != ((rd_T39 l1 x5_2).f0)) = false := bne_eq_false_iff_eq.mpr c18
                                      clear c18
                                      by_cases c19 : ((rd_T39 l1 x6_4).f1) = ((rd_T39 l1 x5_2).f1)
                                      · rw [if_pos c19] at H
                                        have c19b0 : (((rd_T39 l1 x6_4).f1) == ((rd_T39 l1 x5_2).f1)) = true := beq_iff_eq.mpr c19
                                        have c19b1 : (((rd_T39 l1 x6_4).f1) != ((rd_T39 l1 x5_2).f1)) = false := bne_eq_false_iff_eq.mpr c19
                                        clear c19
                                        obtain rfl := Option.some.inj H
                                        have p159 : 0 ≤ (x6_4 : Int) := of_decide_eq_true (by first | (with_reducible assumption) | assumption)
                                        have q159 : x6_4 < (l1.length : Int) := of_decide_eq_true (by first | (with_reducible assumption) | assumption)
                                        obtain ⟨ad159, e159, hx159_0, hx159_1, hx159_2⟩ := at_T39 HR1.out x6_4 p159 q159
                                        cases e159
                                        replace p159 := eq_true p159
                                        replace q159 := eq_true q159
                                        have p160 : 0 ≤ (x5_2 : Int) := of_decide_eq_true (by first | (with_reducible assumption) | assumption)
                                        have q160 : x5_2 < (l1.length : Int) := of_decide_eq_true (by first | (with_reducible assumption) | assumption)
                                        obtain ⟨ad160, e160, hx160_0, hx160_1, hx160_2⟩ := at_T39 HR1.out x5_2 p160 q160
                                        obtain rfl : ad159 = ad160 := (by injection e160)
                                        replace p160 := eq_true p160
                                        replace q160 := eq_true q160
                                        have p161 : 0 ≤ (x6_4 : Int) := of_decide_eq_true (by first | (with_reducible assumption) | assumption)
                                        have q161 : x6_4 < (l1.length : Int) := of_decide_eq_true (by first | (with_reducible assumption) | assumption)
                                        obtain ⟨ad161, e161, hx161_0, hx161_1, hx161_2⟩ := at_T39 HR1.out x6_4 p161 q161
                                        obtain rfl : ad159 = ad161 := (by injection e161)
                                        replace p161 := eq_true p161
                                        replace q161 := eq_true q161
                                        have p162 : 0 ≤ (x5_2 : Int) := of_decide_eq_true (by first | (with_reducible assumption) | assumption)
                                        have q162 : x5_2 < (l1.length : Int) := of_decide_eq_true (by first | (with_reducible assumption) | assumption)
                                        obtain ⟨ad162, e162, hx162_0, hx162_1, hx162_2⟩ := at_T39 HR1.out x5_2 p162 q162
                                        obtain rfl : ad159 = ad162 := (by injection e162)
                                        replace p162 := eq_true p162
                                        replace q162 := eq_true q162
                                        go_wp2
                                        repeat (go_quiet (fail); try go_wp2)
                                        go_ret
                                        exact ⟨by first | rfl | (simp; done) | (simp [*]; done), by repeat (first | exact Drawn0.refl _ | apply Drawn0.step)⟩
                                      · rw [if_neg c19] at H
                                        have c19b0 : (((rd_T39 l1 x6_4).f1) == ((rd_T39 l1 x5_2).f1)) = false := beq_eq_false_iff_ne.mpr c19
                                        have c19b1 : (((rd_T39 l1 x6_4).f1) != ((rd_T39 l1 x5_2).f1)) = true := bne_iff_ne.mpr c19
                                        have H' := Aside0.mk H
                                        clear H
                                        have p159 : 0 ≤ (x6_4 : Int) := of_decide_eq_true (by first | (with_reducible assumption) | assumption)
                                        have q159 : x6_4 < (l1.length : Int) := of_decide_eq_true (by first | (with_reducible assumption) | assumption)
                                        obtain ⟨ad159, e159, hx159_0, hx159_1, hx159_2⟩ := at_T39 HR1.out x6_4 p159 q159
                                        cases e159
                                        replace p159 := eq_true p159
                                        replace q159 := eq_true q159
                                        have p160 : 0 ≤ (x5_2 : Int) := of_decide_eq_true (by first | (with_reducible assumption) | assumption)
                                        have q160 : x5_2 < (l1.length : Int) := of_decide_eq_true (by first | (with_reducible assumption) | assumption)
                                        obtain ⟨ad160, e160, hx160_0, hx160_1, hx160_2⟩ := at_T39 HR1.out x5_2 p160 q160
                                        obtain rfl : ad159 = ad160 := (by injection e160)
                                        replace p160 := eq_true p160
                                        replace q160 := eq_true q160
                                        have p161 : 0 ≤ (x6_4 : Int) := of_decide_eq_true (by first | (with_reducible assumption) | assumption)
                                        have q161 : x6_4 < (l1.length : Int) := of_decide_eq_true (by first | (with_reducible assumption) | assumption)
                                        obtain ⟨ad161, e161, hx161_0, hx161_1, hx161_2⟩ := at_T39 HR1.out x6_4 p161 q161
                                        obtain rfl : ad159 = ad161 := (by injection e161)
                                        replace p161 := eq_true p161
                                        replace q161 := eq_true q161
                                        have p162 : 0 ≤ (x5_2 : Int) := of_decide_eq_true (by first | (with_reducible assumption) | assumption)
                                        have q162 : x5_2 < (l1.length : Int) := of_decide_eq_true (by first | (with_reducible assumption) | assumption)
                                        obtain ⟨ad162, e162, hx162_0, hx162_1, hx162_2⟩ := at_T39 HR1.out x5_2 p162 q162
                                        obtain rfl : ad159 = ad162 := (by injection e162)
                                        replace p162 := eq_true p162
                                        replace q162 := eq_true q162
                                        go_wp2
                                        repeat (go_quiet (fail); try go_wp2)
                                        go_roundg k4
                                        case measure => have := HJ2.out; have := HK2.out; have := HJ7.out; have := HK4.out; omega
                                        case rel => exact ⟨(wrap64 (x6_4 + 1)), (by first | rfl | (simp; done) | (simp [*]; done)), H', ⟨by have := HJ2.out; have := HK2.out; have := HJ7.out; have := HK4.out; omega⟩, by repeat (first | exact Drawn0.refl _ | apply Drawn0.step)⟩
                                    · rw [if_neg c18] at H
                                      have c18b0 : (((rd_T39 l1 x6_4).f0) == ((rd_T39 l1 x5_2).f0)) = false := beq_eq_false_iff_ne.mpr c18
                                      have c18b1 : (((rd_T39 l1 x6_4).f0) != ((rd_T39 l1 x5_2).f0)) = true := bne_iff_ne.mpr c18
                                      have H' := Aside0.mk H
                                      clear H
                                      have p159 : 0 ≤ (x6_4 : Int) := of_decide_eq_true (by first | (with_reducible assumption) | assumption)
                                      have q159 : x6_4 < (l1.length : Int) := of_decide_eq_true (by first | (with_reducible assumption) | assumption)
                                      obtain ⟨ad159, e159, hx159_0, hx159_1, hx159_2⟩ := at_T39 HR1.out x6_4 p159 q159
                                      cases e159
                                      replace p159 := eq_true p159
                                      replace q159 := eq_true q159
                                      have p160 : 0 ≤ (x5_2 : Int) := of_decide_eq_true (by first | (with_reducible assumption) | assumption)
                                      have q160 : x5_2 < (l1.length : Int) := of_decide_eq_true (by first | (with_reducible assumption) | assumption)
                                      obtain ⟨ad160, e160, hx160_0, hx160_1, hx160_2⟩ := at_T39 HR1.out x5_2 p160 q160
                                      obtain rfl : ad159 = ad160 := (by injection e160)
                                      replace p160 := eq_true p160
                                      replace q160 := eq_true q160
                                      go_wp2
                                      repeat (go_quiet (fail); try go_wp2)
                                      go_roundg k4
                                      case measure => have := HJ2.out; have := HK2.out; have := HJ7.out; have := HK4.out; omega
                                      case rel => exact ⟨(wrap64 (x6_4 + 1)), (by first | rfl | (simp; done) | (simp [*]; done)), H', ⟨by have := HJ2.out; have := HK2.out; have := HJ7.out; have := HK4.out; omega⟩, by repeat (first | exact Drawn0.refl _ | apply Drawn0.step)⟩
                                  · rw [if_neg c17] at H
                                    exact absurd H (by simp)
                                · rw [if_neg c16] at H
                                  exact absurd H (by simp)
                              · rw [if_neg c15] at H
                                exact absurd H (by simp)
                            · rw [if_neg c14] at H
                              exact absurd H (by simp)
                          · rw [if_neg c13] at H
                            have c13b0 : decide (x6_4 < x5_2) = false := decide_eq_false c13
                            clear c13
                            have H' := Aside0.mk H
                            clear H
                            go_wp2
                            repeat (go_quiet (fail); try go_wp2)
                            go_roundg k4
                            case measure => have := HJ2.out; have := HK2.out; have := HJ7.out; have := HK4.out; omega
                            case rel => exact ⟨(wrap64 (x5_2 + 1)), (by first | rfl | (simp; done) | (simp [*]; done)), H', ⟨by have := HJ2.out; have := HK2.out; have := HJ7.out; have := HK4.out; omega⟩, by repeat (first | exact Drawn0.refl _ | apply Drawn0.step)⟩
              · rw [if_neg c7] at H
                have c7b0 : decide (x5_2 < (l1.length : Int)) = false := decide_eq_false c7
                clear c7
                obtain rfl := Option.some.inj H
                go_wp2
                repeat (go_quiet (fail); try go_wp2)
                go_ret
                exact ⟨by first | rfl | (simp; done) | (simp [*]; done), by repeat (first | exact Drawn0.refl _ | apply Drawn0.step)⟩

end
end Go.Proofs.Ytaegldcifhgnmaa.B

/- alive: what every right program knows of three drovers. -/
namespace Go.Proofs.Ytaegldcifhgnmaa.B
open Go.Proofs.Ytaegldcifhgnmaa.A
open Go.RowKit Go.Proofs.YtaegldcifhgnmaaW.PrintWords Go.Proofs.YtaegldcifhgnmaaW.PrintMore

theorem same_calls {A : Option Addr} {c : Nat} {l : List Int} {A2 : Option Addr} {c2 : Nat} {l2 : List Int} {w : World} (hr : Kd.C (Kd.int .i64) w A l.length l) (hc : l.length ≤ c) (hr2 : Kd.C (Kd.int .i64) w A2 l2.length l2) (hc2 : l2.length ≤ c2) {r : Bool} (h : drovewaylaw09_same.f 10 l l2 = some r) :
    Calls Try.prog 22 #[.slice A l.length c, .slice A2 l2.length c2] w fun e w' => e = .returned (.bool r) ∧ Below w.heap.size w w' :=
  (drovewaylaw09_same.calls 10 A c l A2 c2 l2 r w hr hc hr2 hc2 h).mono fun _ _ ⟨a, b⟩ => ⟨a, b.below⟩

theorem three_calls (w : World) : Calls Try.prog 45 #[] w fun e w' => ∃ A c, e = .returned (.slice A 3 c) ∧ 3 ≤ c ∧ Kd.C k39 w' A 3 threeL ∧ Below w.heap.size w w' :=
  (drovewaylaw09_three.calls threeL w rfl).mono fun _ _ ⟨v, h1, h2, h3⟩ => by
    obtain ⟨A, c, rfl, hc, hC⟩ := Kd.R_reads h2
    exact ⟨A, c, h1, hc, hC, h3⟩

def drovewaylaw09_alive.f : Option Bool := some true
theorem two_reads (W : World) : Kd.C k39 (W.alloc (.cells #[.int .i64 0, .int .i64 1, .bool false, .int .i64 0, .int .i64 2, .bool true] 39)) (some ⟨W.heap.size, 0, none⟩) 2 twoL := by
  refine ⟨rfl, by decide, fun _ => ⟨_, rfl, fun j p hj => ?_⟩⟩
  have hb := heap_alloc_new W (.cells #[.int .i64 0, .int .i64 1, .bool false, .int .i64 0, .int .i64 2, .bool true] 39)
  refine ⟨_, rfl, k39_mk _ p, fun i u hu => ?_⟩
  rw [add_plain, blk_cell hb]
  match j, hj, i, hu with
  | 0, hj, 0, hu => cases hj; exact hu
  | 0, hj, 1, hu => cases hj; exact hu
  | 0, hj, 2, hu => cases hj; exact hu
  | 1, hj, 0, hu => cases hj; exact hu
  | 1, hj, 1, hu => cases hj; exact hu
  | 1, hj, 2, hu => cases hj; exact hu

theorem lit_reads (W : World) (l : List Int) (hl : l.length ≤ 1000) : Kd.C (Kd.int .i64) (W.alloc (.cells (l.map fun x => Value.int .i64 x).toArray 3)) (some ⟨W.heap.size, 0, none⟩) l.length l := by
  have hb := heap_alloc_new W (.cells (l.map fun x => Value.int .i64 x).toArray 3)
  refine ⟨rfl, by omega, fun _ => ⟨_, rfl, fun j p hj => ⟨[.int .i64 p], rfl, rfl, fun i u hu => ?_⟩⟩⟩
  rw [add_plain, blk_cell hb]
  match i, hu with
  | 0, hu =>
    cases hu
    show (l.map fun x => Value.int .i64 x).toArray[j * 1 + 0]? = _
    rw [Nat.mul_one, Nat.add_zero, List.getElem?_toArray, List.getElem?_map, hj]; rfl

set_option maxRecDepth 100000 in
set_option maxHeartbeats 3200000 in
theorem alive_calls (w : World) : Calls Try.prog 17 #[] w fun e w' => e = .returned (.bool true) ∧ Below w.heap.size w w' := by
  have HB := Aside0.mk (Below.refl w.heap.size w)
  go_enter Try.func17, Try.ntmps17
  go_wp2_with fail
  refine (three_calls _).mono ?_
  rintro e w1a ⟨A1, c1, rfl, hc1, hC1, hb⟩
  have HC1 := Aside0.mk hC1; have Hc1 := Aside0.mk hc1; have HB1 := Aside0.mk (below_then HB.out HB.out.size hb); clear hC1 hc1 hb
  go_wp2_with fail
  refine (feuds_Sides.calls 3 A1 c1 threeL 0 10 _ HC1.out Hc1.out three_Sides).mono ?_
  rintro e w1b ⟨rfl, hb⟩; have HB2 := Aside0.mk (below_then HB1.out HB1.out.size hb); clear hb HC1 Hc1
  go_wp2_with fail
  refine (three_calls _).mono ?_
  rintro e w2a ⟨A2, c2, rfl, hc2, hC2, hb⟩
  have HC2 := Aside0.mk hC2; have Hc2 := Aside0.mk hc2; have HB3 := Aside0.mk (below_then HB2.out HB2.out.size hb); clear hC2 hc2 hb
  go_wp2_with fail
  refine (feuds_Ring.calls 3 A2 c2 threeL [0, 1, 2] 0 _ HC2.out Hc2.out three_Ring).mono ?_
  rintro e w2b ⟨v, rfl, hr, hb⟩; obtain ⟨AR, cR, rfl, hcR, hRR⟩ := Kd.R_reads hr; have HcR := Aside0.mk hcR; have HRR := Aside0.mk hRR; have HB4 := Aside0.mk (below_then HB3.out HB3.out.size hb); clear hb HC2 Hc2 hr hcR hRR
  go_wp2_with fail
  refine (three_calls _).mono ?_
  rintro e w3a ⟨A3, c3, rfl, hc3, hC3, hb⟩
  have HC3 := Aside0.mk hC3; have Hc3 := Aside0.mk hc3; have HB5 := Aside0.mk (below_then HB4.out HB4.out.size hb); have HRR' := Aside0.mk (Kd.C_below HRR.out hb); clear HRR; have HRR := HRR'; clear HRR'; clear hC3 hc3 hb
  go_wp2_with fail
  refine (feuds_Least.calls 3 A3 c3 threeL 1 [2] 0 _ HC3.out Hc3.out three_Least).mono ?_
  rintro e w3b ⟨v, rfl, hr, hb⟩; obtain ⟨AL, cL, rfl, hcL, hLL⟩ := Kd.R_reads hr; have HcL := Aside0.mk hcL; have HLL := Aside0.mk hLL; have HB6 := Aside0.mk (below_then HB5.out HB5.out.size hb); have HRR' := Aside0.mk (Kd.C_below HRR.out hb); clear HRR; have HRR := HRR'; clear HRR'; clear hb HC3 Hc3 hr hcL hLL
  go_wp2_with fail
  refine (three_calls _).mono ?_
  rintro e w4a ⟨A4, c4, rfl, hc4, hC4, hb⟩
  have HC4 := Aside0.mk hC4; have Hc4 := Aside0.mk hc4; have HB7 := Aside0.mk (below_then HB6.out HB6.out.size hb); have HRR' := Aside0.mk (Kd.C_below HRR.out hb); clear HRR; have HRR := HRR'; clear HRR'; have HLL' := Aside0.mk (Kd.C_below HLL.out hb); clear HLL; have HLL := HLL'; clear HLL'; clear hC4 hc4 hb
  go_wp2_with fail
  refine (feuds_Clans.calls 3 A4 c4 threeL [1, 2, 4] 0 _ HC4.out Hc4.out three_Clans).mono ?_
  rintro e w4b ⟨v, rfl, hr, hb⟩; obtain ⟨AC, cC, rfl, hcC, hCC⟩ := Kd.R_reads hr; have HcC := Aside0.mk hcC; have HCC := Aside0.mk hCC; have HB8 := Aside0.mk (below_then HB7.out HB7.out.size hb); have HRR' := Aside0.mk (Kd.C_below HRR.out hb); clear HRR; have HRR := HRR'; clear HRR'; have HLL' := Aside0.mk (Kd.C_below HLL.out hb); clear HLL; have HLL := HLL'; clear HLL'; clear hb HC4 Hc4 hr hcC hCC
  go_wp2_with fail
  refine (three_calls _).mono ?_
  rintro e w5a ⟨A5, c5, rfl, hc5, hC5, hb⟩
  have HC5 := Aside0.mk hC5; have Hc5 := Aside0.mk hc5; have HB9 := Aside0.mk (below_then HB8.out HB8.out.size hb); have HRR' := Aside0.mk (Kd.C_below HRR.out hb); clear HRR; have HRR := HRR'; clear HRR'; have HLL' := Aside0.mk (Kd.C_below HLL.out hb); clear HLL; have HLL := HLL'; clear HLL'; have HCC' := Aside0.mk (Kd.C_below HCC.out hb); clear HCC; have HCC := HCC'; clear HCC'; clear hC5 hc5 hb
  go_wp2_with fail
  refine (feuds_Classes.calls 3 A5 c5 threeL 2 0 _ HC5.out Hc5.out three_Classes).mono ?_
  rintro e w5b ⟨rfl, hb⟩; have HB10 := Aside0.mk (below_then HB9.out HB9.out.size hb); have HRR' := Aside0.mk (Kd.C_below HRR.out hb); clear HRR; have HRR := HRR'; clear HRR'; have HLL' := Aside0.mk (Kd.C_below HLL.out hb); clear HLL; have HLL := HLL'; clear HLL'; have HCC' := Aside0.mk (Kd.C_below HCC.out hb); clear HCC; have HCC := HCC'; clear HCC'; clear hb HC5 Hc5
  go_wp2_with fail
  refine (feuds_Sides.calls 3 _ 2 twoL 3 0 _ (two_reads w5b) (Nat.le_refl 2) two_Sides).mono ?_
  rintro e w6b ⟨rfl, hb0⟩; have hb := below_then (below_alloc (Below.refl w5b.heap.size w5b) (.cells #[.int .i64 0, .int .i64 1, .bool false, .int .i64 0, .int .i64 2, .bool true] 39)) (below_alloc (Below.refl w5b.heap.size w5b) (.cells #[.int .i64 0, .int .i64 1, .bool false, .int .i64 0, .int .i64 2, .bool true] 39)).size hb0; have HB11 := Aside0.mk (below_then HB10.out HB10.out.size hb); have HRR' := Aside0.mk (Kd.C_below HRR.out hb); clear HRR; have HRR := HRR'; clear HRR'; have HLL' := Aside0.mk (Kd.C_below HLL.out hb); clear HLL; have HLL := HLL'; clear HLL'; have HCC' := Aside0.mk (Kd.C_below HCC.out hb); clear HCC; have HCC := HCC'; clear HCC'; clear hb hb0
  go_wp2_with fail
  have hlit := lit_reads w6b [0, 1, 2] (by decide)
  refine (same_calls (l := [0, 1, 2]) (l2 := [0, 1, 2]) (Kd.C_below HRR.out (below_alloc (Below.refl _ _) _)) HcR.out hlit (Nat.le_refl _) (r := true) (by kernel_rfl)).mono ?_
  rintro e w7b ⟨rfl, hb0⟩; have hb := below_then (below_alloc (Below.refl w6b.heap.size w6b) (.cells #[.int .i64 0, .int .i64 1, .int .i64 2] 3)) (below_alloc (Below.refl w6b.heap.size w6b) (.cells #[.int .i64 0, .int .i64 1, .int .i64 2] 3)).size hb0; have HB12 := Aside0.mk (below_then HB11.out HB11.out.size hb); have HRR' := Aside0.mk (Kd.C_below HRR.out hb); clear HRR; have HRR := HRR'; clear HRR'; have HLL' := Aside0.mk (Kd.C_below HLL.out hb); clear HLL; have HLL := HLL'; clear HLL'; have HCC' := Aside0.mk (Kd.C_below HCC.out hb); clear HCC; have HCC := HCC'; clear HCC'; clear hb hb0 hlit
  go_wp2_with fail
  have hlit := lit_reads w7b [2] (by decide)
  refine (same_calls (l := [2]) (l2 := [2]) (Kd.C_below HLL.out (below_alloc (Below.refl _ _) _)) HcL.out hlit (Nat.le_refl _) (r := true) (by kernel_rfl)).mono ?_
  rintro e w8b ⟨rfl, hb0⟩; have hb := below_then (below_alloc (Below.refl w7b.heap.size w7b) (.cells #[.int .i64 2] 3)) (below_alloc (Below.refl w7b.heap.size w7b) (.cells #[.int .i64 2] 3)).size hb0; have HB13 := Aside0.mk (below_then HB12.out HB12.out.size hb); have HLL' := Aside0.mk (Kd.C_below HLL.out hb); clear HLL; have HLL := HLL'; clear HLL'; have HCC' := Aside0.mk (Kd.C_below HCC.out hb); clear HCC; have HCC := HCC'; clear HCC'; clear hb hb0 hlit
  go_wp2_with fail
  have hlit := lit_reads w8b [1, 2, 4] (by decide)
  refine (same_calls (l := [1, 2, 4]) (l2 := [1, 2, 4]) (Kd.C_below HCC.out (below_alloc (Below.refl _ _) _)) HcC.out hlit (Nat.le_refl _) (r := true) (by kernel_rfl)).mono ?_
  rintro e w9b ⟨rfl, hb0⟩; have hb := below_then (below_alloc (Below.refl w8b.heap.size w8b) (.cells #[.int .i64 1, .int .i64 2, .int .i64 4] 3)) (below_alloc (Below.refl w8b.heap.size w8b) (.cells #[.int .i64 1, .int .i64 2, .int .i64 4] 3)).size hb0; have HB14 := Aside0.mk (below_then HB13.out HB13.out.size hb); have HLL' := Aside0.mk (Kd.C_below HLL.out hb); clear HLL; have HLL := HLL'; clear HLL'; have HCC' := Aside0.mk (Kd.C_below HCC.out hb); clear HCC; have HCC := HCC'; clear HCC'; clear hb hb0 hlit
  go_wp2_with fail
  go_ret
  exact ⟨rfl, HB14.out⟩
theorem drovewaylaw09_alive.calls (r : Bool) (w : World) (h : drovewaylaw09_alive.f = some r) : Calls Try.prog 17 #[] w fun e w' => e = .returned (.bool r) ∧ Below w.heap.size w w' := by
  cases h
  exact alive_calls w
end Go.Proofs.Ytaegldcifhgnmaa.B

/- What the law package's own small functions and the reference's Ties compute (plain). -/
namespace Go.Proofs.Ytaegldcifhgnmaa.B
open Go.Proofs.Ytaegldcifhgnmaa.A
open Go.RowKit Go.Proofs.YtaegldcifhgnmaaW.PrintWords Go.Proofs.YtaegldcifhgnmaaW.PrintMore

theorem few_eq (l : List S39) (r : List Int) : drovewaylaw09_few.f l r = some (decide (l.length ≤ 60 ∧ r.length ≤ 60)) := by
  unfold drovewaylaw09_few.f
  by_cases h1 : (l.length : Int) ≤ 60
  · rw [if_pos h1]
    congr 1
    rw [decide_eq_decide]
    omega
  · rw [if_neg h1]
    congr 1
    symm
    rw [decide_eq_false_iff_not]
    omega
theorem wrapS {i n : Nat} (h : i < n) (hn : n ≤ 140737488351232) : wrap64 ((i : Int) + 1) = ((i + 1 : Nat) : Int) := by rw [wrap64_id] <;> omega

/-! ### same -/
theorem same_l0 (l : List Int) (hl : l.length ≤ 140737488351232) : ∀ n i, l.length - i = n → i ≤ l.length → Ev (fun k => drovewaylaw09_same.l0 k l l (i : Int)) true := by
  intro n
  induction n with
  | zero =>
    intro i hn hi
    refine Ev.step (f := fun _ => some true) (fun k => ?_) (Ev.now _)
    rw [drovewaylaw09_same.l0, if_neg (by omega)]
  | succ n ih =>
    intro i hn hi
    refine Ev.step (fun k => ?_) (ih (i + 1) (by omega) (by omega))
    rw [drovewaylaw09_same.l0, if_pos (by omega), if_pos (by omega), if_pos (by omega), if_pos rfl, wrapS (show i < l.length by omega) hl]
theorem same_ev {l l' : List Int} (hl : l.length ≤ 140737488351232) (h : l = l') : Ev (fun k => drovewaylaw09_same.f k l l') true := by
  subst h
  refine Ev.congr (fun k => ?_) (same_l0 l hl _ 0 rfl (Nat.zero_le _))
  unfold drovewaylaw09_same.f
  rw [if_pos rfl]
  rfl

/-! ### Ties -/
theorem rdT (l : List S39) (i : Nat) : rd_T39 l (i : Int) = l.getD i z39 := by simp [rd_T39]

section
variable {n : Int} {l : List S39}
theorem ties_l1_ok (hl : l.length ≤ 1000) {i : Nat} (hi : i < l.length) {r : Int} (h : Ev (fun k => drovewayref09_Ties.l0 k n l ((i + 1 : Nat) : Int)) r) (hp : ∀ j, j < i → pairT (l.getD j z39) ≠ pairT (l.getD i z39)) : ∀ m j, i - j = m → j ≤ i → Ev (fun k => drovewayref09_Ties.l1 k n l (i : Int) (j : Int)) r := by
  intro m
  induction m with
  | zero =>
    intro j hm hj
    refine Ev.step (fun k => ?_) h
    rw [drovewayref09_Ties.l1, if_neg (by omega), wrapS hi (by omega)]
  | succ m ih =>
    intro j hm hj
    refine Ev.step (fun k => ?_) (ih (j + 1) (by omega) (by omega))
    have hne := hp j (by omega)
    rw [drovewayref09_Ties.l1, if_pos (by omega), if_pos (by omega), if_pos (by omega), if_pos (by omega), if_pos (by omega), rdT, rdT, wrapS (show j < l.length by omega) (by omega)]
    by_cases h0 : (l.getD j z39).f0 = (l.getD i z39).f0
    · rw [if_pos h0, if_neg (fun h1 => hne (by unfold pairT; rw [h0, h1]))]
    · rw [if_neg h0]
theorem ties_l1_bad (hl : l.length ≤ 1000) {i q : Nat} (hi : i < l.length) (hq : q < i) (he : pairT (l.getD q z39) = pairT (l.getD i z39)) : ∀ m j, q - j = m → j ≤ q → Ev (fun k => drovewayref09_Ties.l1 k n l (i : Int) (j : Int)) 2 := by
  intro m
  induction m with
  | zero =>
    intro j hm hj
    obtain rfl : j = q := by omega
    unfold pairT at he
    rw [Prod.mk.injEq] at he
    refine Ev.step (f := fun _ => some 2) (fun k => ?_) (Ev.now _)
    rw [drovewayref09_Ties.l1, if_pos (by omega), if_pos (by omega), if_pos (by omega), if_pos (by omega), if_pos (by omega), rdT, rdT, if_pos he.1, if_pos he.2]
  | succ m ih =>
    intro j hm hj
    have h2 := ih (j + 1) (by omega) (by omega)
    by_cases h : pairT (l.getD j z39) = pairT (l.getD i z39)
    · unfold pairT at h
      rw [Prod.mk.injEq] at h
      refine Ev.step (f := fun _ => some 2) (fun k => ?_) (Ev.now _)
      rw [drovewayref09_Ties.l1, if_pos (by omega), if_pos (by omega), if_pos (by omega), if_pos (by omega), if_pos (by omega), rdT, rdT, if_pos h.1, if_pos h.2]
    · refine Ev.step (fun k => ?_) h2
      rw [drovewayref09_Ties.l1, if_pos (by omega), if_pos (by omega), if_pos (by omega), if_pos (by omega), if_pos (by omega), rdT, rdT, wrapS (show j < l.length by omega) (by omega)]
      by_cases h0 : (l.getD j z39).f0 = (l.getD i z39).f0
      · rw [if_pos h0, if_neg (fun h1 => h (by unfold pairT; rw [h0, h1]))]
      · rw [if_neg h0]
theorem ties_l0_in {i : Nat} (hi : i < l.length) (k : Nat) : drovewayref09_Ties.l0 (k + 1) n l (i : Int) = drovewayref09_Ties.j2 k n l (i : Int) (!okT n (l.getD i z39)) := by
  rw [drovewayref09_Ties.l0, if_pos (by omega), if_pos (by omega), rdT]
  unfold okT
  by_cases h0 : (l.getD i z39).f0 < 0
  · rw [if_pos h0]
    congr 1
    rw [decide_eq_false (by omega)]; rfl
  · rw [if_neg h0]
    by_cases h1 : (l.getD i z39).f0 ≥ (l.getD i z39).f1
    · rw [if_pos h1]
      congr 1
      rw [decide_eq_false (p := (l.getD i z39).f0 < (l.getD i z39).f1) (by omega), Bool.and_false]; rfl
    · rw [if_neg h1]
      congr 1
      rw [decide_eq_true (p := 0 ≤ (l.getD i z39).f0) (by omega), decide_eq_true (p := (l.getD i z39).f0 < (l.getD i z39).f1) (by omega), Bool.true_and, Bool.true_and, ← decide_not, decide_eq_decide]
      omega
theorem ties_step (hl : l.length ≤ 1000) {i : Nat} (hi : i < l.length) (hok : okAt n l i = true) {r : Int} (h : Ev (fun k => drovewayref09_Ties.l0 k n l ((i + 1 : Nat) : Int)) r) : Ev (fun k => drovewayref09_Ties.l0 k n l (i : Int)) r := by
  refine Ev.step (f := fun k => drovewayref09_Ties.j2 k n l (i : Int) (!okT n (l.getD i z39))) (fun k => ties_l0_in hi k) ?_
  unfold okAt at hok
  rw [Bool.and_eq_true] at hok
  rw [hok.1]
  have hp : ∀ j, j < i → pairT (l.getD j z39) ≠ pairT (l.getD i z39) := by
    intro j hj e
    have h2 := hok.2
    rw [Bool.not_eq_true', List.contains_eq_mem, decide_eq_false_iff_not] at h2
    apply h2
    rw [← e]
    refine List.mem_map.2 ⟨l.getD j z39, ?_, rfl⟩
    rw [List.mem_iff_getElem]
    exact ⟨j, by rw [List.length_take]; omega, by rw [List.getElem_take, List.getD_eq_getElem?_getD, List.getElem?_eq_getElem (by omega)]; rfl⟩
  refine Ev.step (fun k => ?_) (ties_l1_ok hl hi h hp i 0 (by omega) (Nat.zero_le _))
  rw [drovewayref09_Ties.j2]
  rfl
theorem ties_stop (hl : l.length ≤ 1000) {i : Nat} (hi : i < l.length) (hok : okAt n l i = false) : Ev (fun k => drovewayref09_Ties.l0 k n l (i : Int)) 2 := by
  refine Ev.step (f := fun k => drovewayref09_Ties.j2 k n l (i : Int) (!okT n (l.getD i z39))) (fun k => ties_l0_in hi k) ?_
  unfold okAt at hok
  cases ho : okT n (l.getD i z39) with
  | false =>
    exact Ev.step (f := fun _ => some 2) (fun k => by rw [drovewayref09_Ties.j2]; rfl) (Ev.now _)
  | true =>
    rw [ho, Bool.true_and, Bool.not_eq_false', List.contains_eq_mem, decide_eq_true_iff] at hok
    obtain ⟨t, ht, e⟩ := List.mem_map.1 hok
    obtain ⟨q, hq, rfl⟩ := List.mem_iff_getElem.1 ht
    rw [List.length_take] at hq
    rw [List.getElem_take] at e
    have e2 : pairT (l.getD q z39) = pairT (l.getD i z39) := by rw [← e, List.getD_eq_getElem?_getD, List.getElem?_eq_getElem (by omega)]; rfl
    refine Ev.step (fun k => ?_) (ties_l1_bad (n := n) hl hi (show q < i by omega) e2 q 0 (by omega) (Nat.zero_le _))
    rw [drovewayref09_Ties.j2]
    rfl
theorem ties_l0 (hl : l.length ≤ 1000) : ∀ m i, l.length - i = m → i ≤ l.length → (∀ j, j < i → okAt n l j = true) → Ev (fun k => drovewayref09_Ties.l0 k n l (i : Int)) (if okTies n l = true then 0 else 2) := by
  intro m
  induction m with
  | zero =>
    intro i hm hi hall
    refine Ev.step (f := fun _ => some 0) (fun k => ?_) ?_
    · rw [drovewayref09_Ties.l0, if_neg (by omega)]
    · rw [if_pos (okTies_yes fun j hj => hall j (by omega))]
      exact Ev.now _
  | succ m ih =>
    intro i hm hi hall
    cases hok : okAt n l i with
    | true =>
      refine ties_step hl (by omega) hok (ih (i + 1) (by omega) (by omega) fun j hj => ?_)
      by_cases e : j = i
      · rw [e]; exact hok
      · exact hall j (by omega)
    | false =>
      have := okTies_no (show i < l.length by omega) hok
      rw [this]
      exact ties_stop hl (by omega) hok
theorem Ties_ev (hl : l.length ≤ 1000) : Ev (fun k => drovewayref09_Ties.f k n l) (tiesE n l) := by
  have h0 := ties_l0 (n := n) hl l.length 0 (by omega) (Nat.zero_le _) (fun j hj => absurd hj (Nat.not_lt_zero _))
  unfold tiesE
  by_cases h1 : n < 1 ∨ 8 < n
  · rw [if_pos h1]
    refine Ev.congr (g := fun k => drovewayref09_Ties.f k n l) (f := fun k => drovewayref09_Ties.j0 k n l true) (fun k => ?_) (Ev.step (f := fun _ => some 2) (fun k => by rw [drovewayref09_Ties.j0]; rfl) (Ev.now _))
    unfold drovewayref09_Ties.f
    by_cases h2 : n < 1
    · rw [if_pos h2]
    · rw [if_neg h2, decide_eq_true (by omega)]
  · rw [if_neg h1]
    refine Ev.congr (g := fun k => drovewayref09_Ties.f k n l) (f := fun k => drovewayref09_Ties.j0 k n l false) (fun k => ?_) ?_
    · unfold drovewayref09_Ties.f
      rw [if_neg (by omega), decide_eq_false (by omega)]
    · by_cases h2 : 20 < l.length
      · rw [if_pos h2]
        refine Ev.step (f := fun _ => some 3) (fun k => ?_) (Ev.now _)
        rw [drovewayref09_Ties.j0, if_neg (by decide), if_pos (by omega)]
      · rw [if_neg h2]
        refine Ev.step (fun k => ?_) h0
        rw [drovewayref09_Ties.j0, if_neg (by decide), if_neg (by omega)]
        rfl
end
end Go.Proofs.Ytaegldcifhgnmaa.B

/- Ties of the same drovers; what Least's ties are the fewest of (plain). -/
namespace Go.Proofs.Ytaegldcifhgnmaa.A
open Go.RowKit Go.Proofs.YtaegldcifhgnmaaW.PrintWords Go.Proofs.YtaegldcifhgnmaaW.PrintMore

theorem getD_map {l : List S39} {i : Nat} (hi : i < l.length) : (l.map pairT).getD i (0, 0) = pairT (l.getD i z39) := by
  rw [List.getD_eq_getElem?_getD, List.getD_eq_getElem?_getD, List.getElem?_map, List.getElem?_eq_getElem hi]; rfl
theorem pairs_get {l l' : List S39} (h : l'.map pairT = l.map pairT) {i : Nat} (hi : i < l.length) : pairT (l'.getD i z39) = pairT (l.getD i z39) := by
  have hl : l'.length = l.length := by have := congrArg List.length h; simpa using this
  rw [← getD_map hi, ← getD_map (show i < l'.length by omega), h]
theorem okT_pair {n : Int} {t t' : S39} (h : pairT t' = pairT t) : okT n t' = okT n t := by
  unfold pairT at h
  rw [Prod.mk.injEq] at h
  unfold okT
  rw [h.1, h.2]
theorem okAt_pairs {n : Int} {l l' : List S39} (h : l'.map pairT = l.map pairT) {i : Nat} (hi : i < l.length) : okAt n l' i = okAt n l i := by
  unfold okAt
  rw [okT_pair (pairs_get h hi), pairs_get h hi, List.map_take, List.map_take, h]
theorem okTies_pairs {n : Int} {l l' : List S39} (h : l'.map pairT = l.map pairT) : okTies n l' = okTies n l := by
  have hl : l'.length = l.length := by have := congrArg List.length h; simpa using this
  unfold okTies
  rw [hl, Bool.eq_iff_iff, List.all_eq_true, List.all_eq_true]
  constructor
  · intro q i hi
    rw [← okAt_pairs h (List.mem_range.1 hi)]; exact q i hi
  · intro q i hi
    rw [okAt_pairs h (List.mem_range.1 hi)]; exact q i hi
theorem tiesE_pairs {n : Int} {l l' : List S39} (h : l'.map pairT = l.map pairT) : tiesE n l' = tiesE n l := by
  have hl : l'.length = l.length := by have := congrArg List.length h; simpa using this
  unfold tiesE
  rw [hl, okTies_pairs h]
theorem cross_pair {t t' : S39} (h : pairT t' = pairT t) (s : Nat) : crossB t' s = crossB t s := by
  unfold pairT at h
  rw [Prod.mk.injEq] at h
  unfold crossB
  rw [h.1, h.2]

/-- Do two ties differ? -/
def difB (a b : S39) : Bool := !(a.f0 == b.f0) || (!(a.f1 == b.f1) || !(a.f2 == b.f2))
theorem difB_no {a b : S39} (h : difB a b = false) : a = b := by
  obtain ⟨a0, a1, a2⟩ := a
  obtain ⟨b0, b1, b2⟩ := b
  simp [difB] at h
  obtain ⟨rfl, rfl, rfl⟩ := h
  rfl
/-- How many of the first k ties differ. -/
def difK (l l' : List S39) (k : Nat) : Nat := ((List.range k).filter fun i => difB (l'.getD i z39) (l.getD i z39)).length
theorem difK_succ (l l' : List S39) (k : Nat) : difK l l' (k + 1) = if difB (l'.getD k z39) (l.getD k z39) = true then difK l l' k + 1 else difK l l' k := by
  unfold difK
  rw [List.range_succ, List.filter_append, List.length_append]
  cases h : difB (l'.getD k z39) (l.getD k z39)
  · rw [List.filter_cons, h]; simp
  · rw [List.filter_cons, h]; simp
theorem filter_len_le {α : Type} {p q : α → Bool} : ∀ l : List α, (∀ x ∈ l, p x = true → q x = true) → (l.filter p).length ≤ (l.filter q).length
  | [], _ => Nat.le_refl _
  | x :: xs, h => by
    have ih := filter_len_le xs fun y hy => h y (List.mem_cons_of_mem _ hy)
    rw [List.filter_cons, List.filter_cons]
    by_cases hp : p x = true
    · rw [if_pos hp, if_pos (h x (List.mem_cons_self) hp)]
      simp only [List.length_cons]; omega
    · rw [if_neg hp]
      split
      · simp only [List.length_cons]; omega
      · exact ih

theorem wrongF_nil {l : List S39} {s : Nat} (h : (wrongF l s).isEmpty = true) {i : Nat} (hi : i < l.length) : wrB (l.getD i z39) s = false := by
  rw [List.isEmpty_iff] at h
  unfold wrongF wrongK at h
  rw [List.map_eq_nil_iff, List.filter_eq_nil_iff] at h
  have := h i (List.mem_range.2 hi)
  simpa using this
theorem wrongF_empty {l : List S39} {s : Nat} (h : ∀ i, i < l.length → wrB (l.getD i z39) s = false) : (wrongF l s).isEmpty = true := by
  rw [List.isEmpty_iff]
  unfold wrongF wrongK
  rw [List.map_eq_nil_iff, List.filter_eq_nil_iff]
  intro i hi
  rw [h i (List.mem_range.1 hi)]; simp
/-- Where the changed ties are calm with a set, the set has at most as many wrong ties as were changed. -/
theorem wrong_le {l l' : List S39} {s : Nat} (hp : l'.map pairT = l.map pairT) (h : (wrongF l' s).isEmpty = true) : (wrongF l s).length ≤ difK l l' l.length := by
  have hl : l'.length = l.length := by have := congrArg List.length hp; simpa using this
  unfold wrongF wrongK difK
  rw [List.length_map]
  refine filter_len_le _ fun i hi hw => ?_
  have hi := List.mem_range.1 hi
  have h0 := wrongF_nil h (show i < l'.length by omega)
  cases hd : difB (l'.getD i z39) (l.getD i z39) with
  | true => rfl
  | false =>
    rw [difB_no hd] at h0
    rw [h0] at hw
    cases hw
theorem leastK_le (l : List S39) : ∀ k s, s < k → (leastK l k).2.length ≤ (wrongF l s).length
  | 0, s, h => absurd h (Nat.not_lt_zero _)
  | k + 1, s, h => by
    rw [leastK]
    by_cases hs : s = k
    · subst hs
      split
      · exact Nat.le_refl _
      · omega
    · have := leastK_le l k s (by omega)
      split
      · have : (wrongF l k).length < (leastK l k).2.length := by assumption
        show (wrongF l k).length ≤ _
        omega
      · exact this
theorem leastK_spec (l : List S39) : ∀ k, 0 < k → (leastK l k).1 < k ∧ (leastK l k).2 = wrongF l (leastK l k).1 ∧ ∀ s, s < (leastK l k).1 → (leastK l k).2.length < (wrongF l s).length
  | 0, h => absurd h (Nat.lt_irrefl _)
  | k + 1, _ => by
    rw [leastK]
    by_cases h0 : k = 0
    · subst h0
      have e : leastK l 0 = (0, wrongF l 0) := rfl
      rw [e]
      rw [if_neg (Nat.lt_irrefl _)]
      exact ⟨Nat.zero_lt_one, rfl, fun s hs => absurd hs (Nat.not_lt_zero _)⟩
    · obtain ⟨i1, i2, i3⟩ := leastK_spec l k (by omega)
      split
      · rename_i hlt
        refine ⟨Nat.lt_succ_self _, rfl, fun s hs => ?_⟩
        have := leastK_le l k s hs
        show (wrongF l k).length < _
        omega
      · exact ⟨by omega, i2, i3⟩
theorem sidesN_some {m : Nat} {l : List S39} {s : Nat} (h : sidesN m l = some s) : s < 2 ^ m ∧ (wrongF l s).isEmpty = true := by
  unfold sidesN at h
  rw [List.find?_range_eq_some] at h
  exact ⟨List.mem_range.1 h.2.1, h.1⟩
theorem sidesN_none {m : Nat} {l : List S39} (h : sidesN m l = none) (s : Nat) (hs : s < 2 ^ m) : (wrongF l s).isEmpty = false := by
  unfold sidesN at h
  rw [List.find?_range_eq_none] at h
  simpa using h s hs
/-- The law of fewer changes. -/
theorem fewer_main {n : Int} {l l' : List S39} (h : tiesE n l = 0) (hp : l'.map pairT = l.map pairT) : (leastK l (2 ^ n.toNat)).2.length ≤ difK l l' l.length ∨ (sidesF n l').2 = 10 := by
  unfold sidesF
  rw [if_pos (by rw [tiesE_pairs hp]; exact h)]
  cases hs : sidesN n.toNat l' with
  | none => exact .inr rfl
  | some s =>
    obtain ⟨h1, h2⟩ := sidesN_some hs
    have a1 := leastK_le l (2 ^ n.toNat) s h1
    have a2 := wrong_le hp h2
    exact .inl (by omega)
end Go.Proofs.Ytaegldcifhgnmaa.A

-- Printed by hprint.py (this claim's own program, over the kit's print.py) out of the translation and contracts by hand. Not trusted: Lean checks it.
namespace Go.Proofs.Ytaegldcifhgnmaa.PFeudsFewer
open Go.Proofs.Ytaegldcifhgnmaa.A Go.Proofs.Ytaegldcifhgnmaa.B
open Go.RowKit Go.Proofs.YtaegldcifhgnmaaW.PrintWords Go.Proofs.YtaegldcifhgnmaaW.PrintLast Go.Proofs.YtaegldcifhgnmaaW.PrintMore
attribute [local go_sem] max2_int min2_int max_two min_two max_three min_three max_four min_four   -- for this text's walks alone
set_option linter.unusedVariables false
set_option linter.unusedSimpArgs false



def errW : Option Int → Value
  | none => .nilIface
  | some c => .iface 0 (.int .i64 c)
theorem errW_none : errW none = .nilIface := rfl
theorem errW_some (c : Int) : errW (some c) = .iface 0 (.int .i64 c) := rfl

theorem info39 : (Try.prog.info? 39).map (fun i => (i.zero, i.size, i.bytes)) = some (some (.agg #[(.int .i64 0), (.int .i64 0), (.bool false)]), 3, 24) := by kernel_rfl
-- the values' own types

end Go.Proofs.Ytaegldcifhgnmaa.PFeudsFewer

-- Printed by hprint.py (this claim's own program, over the kit's print.py) out of the translation and contracts by hand. Not trusted: Lean checks it.
namespace Go.Proofs.Ytaegldcifhgnmaa.PFeudsFewer
open Go.Proofs.Ytaegldcifhgnmaa.A Go.Proofs.Ytaegldcifhgnmaa.B
open Go.RowKit Go.Proofs.YtaegldcifhgnmaaW.PrintWords Go.Proofs.YtaegldcifhgnmaaW.PrintLast Go.Proofs.YtaegldcifhgnmaaW.PrintMore
attribute [local go_sem] max2_int min2_int max_two min_two max_three min_three max_four min_four   -- for this text's walks alone
set_option linter.unusedVariables false
set_option linter.unusedSimpArgs false

theorem eqA39 (d : Nat) (w : World) (x0 y0 : Int) (x1 y1 : Int) (x2 y2 : Bool) :
    (Op.equalIn (d + 2) 39 (.agg #[.int .i64 x0, .int .i64 x1, .bool x2]) (.agg #[.int .i64 y0, .int .i64 y1, .bool y2])).run Try.prog w = .ok (x0 == y0 && (x1 == y1 && (x2 == y2))) w := by
  refine eqA_of Try.underlying39 (by kernel_rfl) ?_
  refine eqf_cons (by rfl) (by go_simp; rfl) (by go_simp; rfl) (by go_simp) ?_
  refine eqf_cons (by rfl) (by go_simp; rfl) (by go_simp; rfl) (by go_simp) ?_
  exact eqf_last (by rfl) (by go_simp; rfl) (by go_simp; rfl) (by go_simp)
end Go.Proofs.Ytaegldcifhgnmaa.PFeudsFewer

-- Printed by hprint.py (this claim's own program, over the kit's print.py) out of the translation and contracts by hand. Not trusted: Lean checks it.
namespace Go.Proofs.Ytaegldcifhgnmaa.PFeudsFewer
open Go.Proofs.Ytaegldcifhgnmaa.A Go.Proofs.Ytaegldcifhgnmaa.B
open Go.RowKit Go.Proofs.YtaegldcifhgnmaaW.PrintWords Go.Proofs.YtaegldcifhgnmaaW.PrintLast Go.Proofs.YtaegldcifhgnmaaW.PrintMore
attribute [local go_sem] max2_int min2_int max_two min_two max_three min_three max_four min_four   -- for this text's walks alone
set_option linter.unusedVariables false
set_option linter.unusedSimpArgs false

attribute [local go_sem high] eqA39
-- by hand: function 16 (drovewaylaw09_few)

-- by hand: function 17 (drovewaylaw09_alive)

-- by hand: function 18 (feuds_Sides)

-- by hand: function 24 (drovewayref09_Ties)

-- by hand: function 25 (feuds_Least)

/-! ### drovewaylaw09_FeudsFewer: function 4 -/
mutual
def drovewaylaw09_FeudsFewer.j0 : Nat → Int → List (S39) → List Int → Bool → Option (Bool)
  | 0, _, _, _, _ => none
  | k + 1, x0, x1, x2, x35 => if x35 = true then ((drovewaylaw09_alive.f).bind fun t103 => (some t103)) else ((feuds_Least.f x0 x1).bind fun bt104 => ((some (([] : List (S39)) : List (S39))).bind fun y109 => (if y109.length + x1.length < 5864062014805 then (drovewaylaw09_FeudsFewer.l0 k x0 x1 x2 bt104.2.1 bt104.2.2 (y109 ++ x1) 0) else (none))))
def drovewaylaw09_FeudsFewer.l0 : Nat → Int → List (S39) → List Int → List Int → Int → List (S39) → Int → Option (Bool)
  | 0, _, _, _, _, _, _, _ => none
  | k + 1, x0, x1, x2, x8, x9, x10, x11 => if x11 < (x2.length : Int) then (if 0 ≤ x11 then (if (x1.length : Int) = 0 then (none) else (if 0 ≤ (Int.tmod (wrap64 (rd x2 x11)) (x1.length : Int)) then (if (Int.tmod (wrap64 (rd x2 x11)) (x1.length : Int)) < (x10.length : Int) then (drovewaylaw09_FeudsFewer.l0 k x0 x1 x2 x8 x9 (x10.set ((Int.tmod (wrap64 (rd x2 x11)) (x1.length : Int)) : Int).toNat (⟨(rd_T39 x10 (Int.tmod (wrap64 (rd x2 x11)) (x1.length : Int))).f0, (rd_T39 x10 (Int.tmod (wrap64 (rd x2 x11)) (x1.length : Int))).f1, !((rd_T39 x10 (Int.tmod (wrap64 (rd x2 x11)) (x1.length : Int))).f2)⟩ : S39)) (wrap64 (x11 + 1))) else (none)) else (none))) else (none)) else (drovewaylaw09_FeudsFewer.l1 k x0 x1 x8 x9 x10 0 0)
def drovewaylaw09_FeudsFewer.l1 : Nat → Int → List (S39) → List Int → Int → List (S39) → Int → Int → Option (Bool)
  | 0, _, _, _, _, _, _, _ => none
  | k + 1, x0, x1, x8, x9, x10, x13, x14 => if x14 < (x1.length : Int) then (if 0 ≤ x14 then (if x14 < (x10.length : Int) then (if (!(((rd_T39 x10 x14).f0) == ((rd_T39 x1 x14).f0)) || (!(((rd_T39 x10 x14).f1) == ((rd_T39 x1 x14).f1)) || (!(((rd_T39 x10 x14).f2) == ((rd_T39 x1 x14).f2))))) = true then (drovewaylaw09_FeudsFewer.l1 k x0 x1 x8 x9 x10 (wrap64 (x13 + 1)) (wrap64 (x14 + 1))) else (drovewaylaw09_FeudsFewer.l1 k x0 x1 x8 x9 x10 x13 (wrap64 (x14 + 1)))) else (none)) else (none)) else ((feuds_Sides.f x0 x10).bind fun bt120 => (if x9 = 0 then (if x13 ≥ (x8.length : Int) then ((drovewaylaw09_alive.f).bind fun t122 => (some t122)) else (if bt120.2 = 10 then ((drovewaylaw09_alive.f).bind fun t123 => (some t123)) else (some false))) else (some false)))
end
def drovewaylaw09_FeudsFewer.f (k : Nat) (a0 : Int) (l1 : List (S39)) (l2 : List Int) : Option (Bool) := (drovewaylaw09_few.f l1 ([] : List Int)).bind fun t101 => (if t101 = true then (if (l2.length : Int) > 20 then (drovewaylaw09_FeudsFewer.j0 k a0 l1 l2 true) else ((drovewayref09_Ties.f k a0 l1).bind fun t102 => (if t102 = 0 then (drovewaylaw09_FeudsFewer.j0 k a0 l1 l2 ((l1.length : Int) == 0)) else (drovewaylaw09_FeudsFewer.j0 k a0 l1 l2 true)))) else (drovewaylaw09_FeudsFewer.j0 k a0 l1 l2 true))
theorem drovewaylaw09_FeudsFewer.mono_l : ∀ k, (∀ y0 y1 y2 y3, LeO (drovewaylaw09_FeudsFewer.j0 k y0 y1 y2 y3) (drovewaylaw09_FeudsFewer.j0 (k + 1) y0 y1 y2 y3)) ∧ (∀ y0 y1 y2 y3 y4 y5 y6, LeO (drovewaylaw09_FeudsFewer.l0 k y0 y1 y2 y3 y4 y5 y6) (drovewaylaw09_FeudsFewer.l0 (k + 1) y0 y1 y2 y3 y4 y5 y6)) ∧ (∀ y0 y1 y2 y3 y4 y5 y6, LeO (drovewaylaw09_FeudsFewer.l1 k y0 y1 y2 y3 y4 y5 y6) (drovewaylaw09_FeudsFewer.l1 (k + 1) y0 y1 y2 y3 y4 y5 y6))
  | 0 => ⟨fun _ _ _ _ r h => by simp [drovewaylaw09_FeudsFewer.j0] at h, fun _ _ _ _ _ _ _ r h => by simp [drovewaylaw09_FeudsFewer.l0] at h, fun _ _ _ _ _ _ _ r h => by simp [drovewaylaw09_FeudsFewer.l1] at h⟩
  | k + 1 => by
    obtain ⟨ih0, ih1, ih2⟩ := drovewaylaw09_FeudsFewer.mono_l k
    refine ⟨?_, ?_, ?_⟩
    · intro y0 y1 y2 y3
      unfold drovewaylaw09_FeudsFewer.j0
      repeat' first
      | (with_reducible exact ih0 _ _ _ _)
      | (with_reducible exact ih1 _ _ _ _ _ _ _)
      | (with_reducible exact ih2 _ _ _ _ _ _ _)
      | (with_reducible exact drovewayref09_Ties.mono _ _ _)
      | (with_reducible exact LeO.refl _)
      | (with_reducible exact LeO.none _)
      | (with_reducible refine LeO.ite ?_ ?_)
      | (with_reducible refine LeO.bind ?_ (fun _ => ?_))
      | exact ih0 _ _ _ _
      | exact ih1 _ _ _ _ _ _ _
      | exact ih2 _ _ _ _ _ _ _
      | exact drovewayref09_Ties.mono _ _ _
      | exact LeO.none _
      | refine LeO.ite ?_ ?_
      | refine LeO.bind ?_ (fun _ => ?_)
    · intro y0 y1 y2 y3 y4 y5 y6
      unfold drovewaylaw09_FeudsFewer.l0
      repeat' first
      | (with_reducible exact ih0 _ _ _ _)
      | (with_reducible exact ih1 _ _ _ _ _ _ _)
      | (with_reducible exact ih2 _ _ _ _ _ _ _)
      | (with_reducible exact drovewayref09_Ties.mono _ _ _)
      | (with_reducible exact LeO.refl _)
      | (with_reducible exact LeO.none _)
      | (with_reducible refine LeO.ite ?_ ?_)
      | (with_reducible refine LeO.bind ?_ (fun _ => ?_))
      | exact ih0 _ _ _ _
      | exact ih1 _ _ _ _ _ _ _
      | exact ih2 _ _ _ _ _ _ _
      | exact drovewayref09_Ties.mono _ _ _
      | exact LeO.none _
      | refine LeO.ite ?_ ?_
      | refine LeO.bind ?_ (fun _ => ?_)
    · intro y0 y1 y2 y3 y4 y5 y6
      unfold drovewaylaw09_FeudsFewer.l1
      repeat' first
      | (with_reducible exact ih0 _ _ _ _)
      | (with_reducible exact ih1 _ _ _ _ _ _ _)
      | (with_reducible exact ih2 _ _ _ _ _ _ _)
      | (with_reducible exact drovewayref09_Ties.mono _ _ _)
      | (with_reducible exact LeO.refl _)
      | (with_reducible exact LeO.none _)
      | (with_reducible refine LeO.ite ?_ ?_)
      | (with_reducible refine LeO.bind ?_ (fun _ => ?_))
      | exact ih0 _ _ _ _
      | exact ih1 _ _ _ _ _ _ _
      | exact ih2 _ _ _ _ _ _ _
      | exact drovewayref09_Ties.mono _ _ _
      | exact LeO.none _
      | refine LeO.ite ?_ ?_
      | refine LeO.bind ?_ (fun _ => ?_)
theorem drovewaylaw09_FeudsFewer.mono : ∀ a0 a1 a2 k, LeO (drovewaylaw09_FeudsFewer.f k a0 a1 a2) (drovewaylaw09_FeudsFewer.f (k + 1) a0 a1 a2) := by
  intro a0 a1 a2 k
  obtain ⟨ih0, ih1, ih2⟩ := drovewaylaw09_FeudsFewer.mono_l k
  unfold drovewaylaw09_FeudsFewer.f
  repeat' first
      | (with_reducible exact ih0 _ _ _ _)
      | (with_reducible exact ih1 _ _ _ _ _ _ _)
      | (with_reducible exact ih2 _ _ _ _ _ _ _)
      | (with_reducible exact drovewayref09_Ties.mono _ _ _)
      | (with_reducible exact LeO.refl _)
      | (with_reducible exact LeO.none _)
      | (with_reducible refine LeO.ite ?_ ?_)
      | (with_reducible refine LeO.bind ?_ (fun _ => ?_))
      | exact ih0 _ _ _ _
      | exact ih1 _ _ _ _ _ _ _
      | exact ih2 _ _ _ _ _ _ _
      | exact drovewayref09_Ties.mono _ _ _
      | exact LeO.none _
      | refine LeO.ite ?_ ?_
      | refine LeO.bind ?_ (fun _ => ?_)
set_option maxHeartbeats 8000000 in
set_option maxRecDepth 100000 in
theorem drovewaylaw09_FeudsFewer.calls (k : Nat) (a0 : Int) (A1 : Option Addr) (c1 : Nat) (l1 : List (S39)) (A2 : Option Addr) (c2 : Nat) (l2 : List Int) (r : Bool) (w : World) (hr1 : Kd.C k39 w A1 l1.length l1) (hc1 : l1.length ≤ c1) (hr2 : Kd.C (Kd.int .u8) w A2 l2.length l2) (hc2 : l2.length ≤ c2) (h : drovewaylaw09_FeudsFewer.f k a0 l1 l2 = some r) :
    Calls Try.prog 4 #[.int .i64 a0, .slice A1 l1.length c1, .slice A2 l2.length c2] w fun e w' => e = .returned (.bool r) ∧ Below w.heap.size w w' := by
  have hu39 := Try.underlying39
  have HR1 := Aside0.mk hr1
  have HC1 := Aside0.mk hc1
  clear hr1 hc1
  have HR2 := Aside0.mk hr2
  have HC2 := Aside0.mk hc2
  clear hr2 hc2
  have HB := Aside0.mk (Below.refl w.heap.size w)
  have H : ((drovewaylaw09_few.f l1 ([] : List Int)).bind fun t101 => (if t101 = true then (if (l2.length : Int) > 20 then (drovewaylaw09_FeudsFewer.j0 k a0 l1 l2 true) else ((drovewayref09_Ties.f k a0 l1).bind fun t102 => (if t102 = 0 then (drovewaylaw09_FeudsFewer.j0 k a0 l1 l2 ((l1.length : Int) == 0)) else (drovewaylaw09_FeudsFewer.j0 k a0 l1 l2 true)))) else (drovewaylaw09_FeudsFewer.j0 k a0 l1 l2 true))) = some r := h
  clear h
  have HC4 := Aside0.mk H
  clear H
  go_enter Try.func4, Try.ntmps4
  go_upto_region 1 with (fail)
  repeat (go_quiet (fail); go_upto_region 1 with (fail))
  go_cut [35] (fun v35 wc => ∃ (kq : Nat) (x35_3 : Bool), v35 = .bool x35_3 ∧ Aside0 (drovewaylaw09_FeudsFewer.j0 kq a0 l1 l2 x35_3 = some r) ∧ Aside0 (kq ≤ k) ∧ Aside0 (Below w.heap.size w wc))
  case first =>
    have H := HC4.out
    clear HC4
    replace H := Option.bind_eq_some_iff.mp H
    obtain ⟨t101, A50, H⟩ := H
    replace H : (if t101 = true then (if (l2.length : Int) > 20 then (drovewaylaw09_FeudsFewer.j0 k a0 l1 l2 true) else ((drovewayref09_Ties.f k a0 l1).bind fun t102 => (if t102 = 0 then (drovewaylaw09_FeudsFewer.j0 k a0 l1 l2 ((l1.length : Int) == 0)) else (drovewaylaw09_FeudsFewer.j0 k a0 l1 l2 true)))) else (drovewaylaw09_FeudsFewer.j0 k a0 l1 l2 true)) = some r := H
    have A5 := Aside0.mk A50
    clear A50
    by_cases c6 : t101 = true
    · subst c6
      have H1 : (if (l2.length : Int) > 20 then (drovewaylaw09_FeudsFewer.j0 k a0 l1 l2 true) else ((drovewayref09_Ties.f k a0 l1).bind fun t102 => (if t102 = 0 then (drovewaylaw09_FeudsFewer.j0 k a0 l1 l2 ((l1.length : Int) == 0)) else (drovewaylaw09_FeudsFewer.j0 k a0 l1 l2 true)))) = some r := by rw [if_pos rfl] at H; exact H
      clear H
      have H := H1
      clear H1
      by_cases c7 : (l2.length : Int) > 20
      · rw [if_pos c7] at H
        have c7b0 : decide (20 < (l2.length : Int)) = true := decide_eq_true c7
        have c7b1 : decide (20 < l2.length) = true := decide_eq_true (by omega)
        clear c7
        (first | rw [c7b0] | (simp only [i64_w, i32_w]; rw [c7b0]) | skip)
        have H' := Aside0.mk H
        clear H
        go_wp2_with (first | (go_at_call 16; (refine (drovewaylaw09_few.calls _ _ l1 _ _ ([] : List Int) true _ ?side1 ?side2 ?side3 ?side4 A5.out).mono ?_); (case side1 => repeat (first | exact (Kd.C_below HR1.out HB.out) | (with_reducible refine Kd.C_alloc ?_ _) | (with_reducible refine Kd.C_drewN ?_ _) | (with_reducible refine Kd.C_drew ?_))); (case side2 => exact HC1.out); (case side3 => exact Kd.C_nil _ _); (case side4 => exact Nat.le_refl _); rintro e w' ⟨rfl, ⟨nd, rfl⟩⟩; (try first | exact ⟨rfl, _, World.drewN_drewN _ _ _⟩ | exact ⟨rfl, _, Eq.trans (World.drewN_drewN _ _ _) (congrArg (World.drewN _) (Nat.add_assoc _ _ _))⟩)))
        repeat (go_quiet (first | (go_at_call 16; (refine (drovewaylaw09_few.calls _ _ l1 _ _ ([] : List Int) true _ ?side1 ?side2 ?side3 ?side4 A5.out).mono ?_); (case side1 => repeat (first | exact (Kd.C_below HR1.out HB.out) | (with_reducible refine Kd.C_alloc ?_ _) | (with_reducible refine Kd.C_drewN ?_ _) | (with_reducible refine Kd.C_drew ?_))); (case side2 => exact HC1.out); (case side3 => exact Kd.C_nil _ _); (case side4 => exact Nat.le_refl _); rintro e w' ⟨rfl, ⟨nd, rfl⟩⟩; (try first | exact ⟨rfl, _, World.drewN_drewN _ _ _⟩ | exact ⟨rfl, _, Eq.trans (World.drewN_drewN _ _ _) (congrArg (World.drewN _) (Nat.add_assoc _ _ _))⟩))); try go_wp2_with (first | (go_at_call 16; (refine (drovewaylaw09_few.calls _ _ l1 _ _ ([] : List Int) true _ ?side1 ?side2 ?side3 ?side4 A5.out).mono ?_); (case side1 => repeat (first | exact (Kd.C_below HR1.out HB.out) | (with_reducible refine Kd.C_alloc ?_ _) | (with_reducible refine Kd.C_drewN ?_ _) | (with_reducible refine Kd.C_drew ?_))); (case side2 => exact HC1.out); (case side3 => exact Kd.C_nil _ _); (case side4 => exact Nat.le_refl _); rintro e w' ⟨rfl, ⟨nd, rfl⟩⟩; (try first | exact ⟨rfl, _, World.drewN_drewN _ _ _⟩ | exact ⟨rfl, _, Eq.trans (World.drewN_drewN _ _ _) (congrArg (World.drewN _) (Nat.add_assoc _ _ _))⟩))))
        go_meet
        case rel => exact ⟨_, (true), (by first | rfl | (simp; done) | (simp [*]; done)), H', ⟨by first | omega | exact Nat.le_refl _⟩, ⟨by repeat (first | (with_reducible first | exact HB.out | apply below_alloc | apply pw_below_drewN | apply below_drew1) | exact HB.out)⟩⟩
      · rw [if_neg c7] at H
        have c7b0 : decide (20 < (l2.length : Int)) = false := decide_eq_false c7
        have c7b1 : decide (20 < l2.length) = false := decide_eq_false (by omega)
        clear c7
        (first | rw [c7b0] | (simp only [i64_w, i32_w]; rw [c7b0]) | skip)
        replace H := Option.bind_eq_some_iff.mp H
        obtain ⟨t102, A80, H⟩ := H
        replace H : (if t102 = 0 then (drovewaylaw09_FeudsFewer.j0 k a0 l1 l2 ((l1.length : Int) == 0)) else (drovewaylaw09_FeudsFewer.j0 k a0 l1 l2 true)) = some r := H
        have A8 := Aside0.mk A80
        clear A80
        by_cases c9 : t102 = 0
        · rw [if_pos c9] at H
          have c9b0 : (t102 == 0) = true := beq_iff_eq.mpr c9
          have c9b1 : (t102 != 0) = false := bne_eq_false_iff_eq.mpr c9
          clear c9
          have H' := Aside0.mk H
          clear H
          go_wp2_with (first | (go_at_call 16; (refine (drovewaylaw09_few.calls _ _ l1 _ _ ([] : List Int) true _ ?side1 ?side2 ?side3 ?side4 A5.out).mono ?_); (case side1 => repeat (first | exact (Kd.C_below HR1.out HB.out) | (with_reducible refine Kd.C_alloc ?_ _) | (with_reducible refine Kd.C_drewN ?_ _) | (with_reducible refine Kd.C_drew ?_))); (case side2 => exact HC1.out); (case side3 => exact Kd.C_nil _ _); (case side4 => exact Nat.le_refl _); rintro e w' ⟨rfl, ⟨nd, rfl⟩⟩; (try first | exact ⟨rfl, _, World.drewN_drewN _ _ _⟩ | exact ⟨rfl, _, Eq.trans (World.drewN_drewN _ _ _) (congrArg (World.drewN _) (Nat.add_assoc _ _ _))⟩)) | (go_at_call 24; (with_reducible refine (drovewayref09_Ties.calls k a0 _ _ l1 t102 _ ?side1 ?side2 A8.out).mono ?_); (case side1 => repeat (first | exact (Kd.C_below HR1.out (by repeat (first | (with_reducible first | exact HB.out | apply below_alloc | apply pw_below_drewN | apply below_drew1) | exact HB.out))) | (with_reducible refine Kd.C_alloc ?_ _) | (with_reducible refine Kd.C_drewN ?_ _) | (with_reducible refine Kd.C_drew ?_))); (case side2 => exact HC1.out); rintro e w' ⟨rfl, ⟨nd, rfl⟩⟩; (try first | exact ⟨rfl, _, World.drewN_drewN _ _ _⟩ | exact ⟨rfl, _, Eq.trans (World.drewN_drewN _ _ _) (congrArg (World.drewN _) (Nat.add_assoc _ _ _))⟩)))
          repeat (go_quiet (first | (go_at_call 16; (refine (drovewaylaw09_few.calls _ _ l1 _ _ ([] : List Int) true _ ?side1 ?side2 ?side3 ?side4 A5.out).mono ?_); (case side1 => repeat (first | exact (Kd.C_below HR1.out HB.out) | (with_reducible refine Kd.C_alloc ?_ _) | (with_reducible refine Kd.C_drewN ?_ _) | (with_reducible refine Kd.C_drew ?_))); (case side2 => exact HC1.out); (case side3 => exact Kd.C_nil _ _); (case side4 => exact Nat.le_refl _); rintro e w' ⟨rfl, ⟨nd, rfl⟩⟩; (try first | exact ⟨rfl, _, World.drewN_drewN _ _ _⟩ | exact ⟨rfl, _, Eq.trans (World.drewN_drewN _ _ _) (congrArg (World.drewN _) (Nat.add_assoc _ _ _))⟩)) | (go_at_call 24; (with_reducible refine (drovewayref09_Ties.calls k a0 _ _ l1 t102 _ ?side1 ?side2 A8.out).mono ?_); (case side1 => repeat (first | exact (Kd.C_below HR1.out (by repeat (first | (with_reducible first | exact HB.out | apply below_alloc | apply pw_below_drewN | apply below_drew1) | exact HB.out))) | (with_reducible refine Kd.C_alloc ?_ _) | (with_reducible refine Kd.C_drewN ?_ _) | (with_reducible refine Kd.C_drew ?_))); (case side2 => exact HC1.out); rintro e w' ⟨rfl, ⟨nd, rfl⟩⟩; (try first | exact ⟨rfl, _, World.drewN_drewN _ _ _⟩ | exact ⟨rfl, _, Eq.trans (World.drewN_drewN _ _ _) (congrArg (World.drewN _) (Nat.add_assoc _ _ _))⟩))); try go_wp2_with (first | (go_at_call 16; (refine (drovewaylaw09_few.calls _ _ l1 _ _ ([] : List Int) true _ ?side1 ?side2 ?side3 ?side4 A5.out).mono ?_); (case side1 => repeat (first | exact (Kd.C_below HR1.out HB.out) | (with_reducible refine Kd.C_alloc ?_ _) | (with_reducible refine Kd.C_drewN ?_ _) | (with_reducible refine Kd.C_drew ?_))); (case side2 => exact HC1.out); (case side3 => exact Kd.C_nil _ _); (case side4 => exact Nat.le_refl _); rintro e w' ⟨rfl, ⟨nd, rfl⟩⟩; (try first | exact ⟨rfl, _, World.drewN_drewN _ _ _⟩ | exact ⟨rfl, _, Eq.trans (World.drewN_drewN _ _ _) (congrArg (World.drewN _) (Nat.add_assoc _ _ _))⟩)) | (go_at_call 24; (with_reducible refine (drovewayref09_Ties.calls k a0 _ _ l1 t102 _ ?side1 ?side2 A8.out).mono ?_); (case side1 => repeat (first | exact (Kd.C_below HR1.out (by repeat (first | (with_reducible first | exact HB.out | apply below_alloc | apply pw_below_drewN | apply below_drew1) | exact HB.out))) | (with_reducible refine Kd.C_alloc ?_ _) | (with_reducible refine Kd.C_drewN ?_ _) | (with_reducible refine Kd.C_drew ?_))); (case side2 => exact HC1.out); rintro e w' ⟨rfl, ⟨nd, rfl⟩⟩; (try first | exact ⟨rfl, _, World.drewN_drewN _ _ _⟩ | exact ⟨rfl, _, Eq.trans (World.drewN_drewN _ _ _) (congrArg (World.drewN _) (Nat.add_assoc _ _ _))⟩))))
          go_meet
          case rel => exact ⟨_, (((l1.length : Int) == 0)), (by first | rfl | (simp; done) | (simp [*]; done)), H', ⟨by first | omega | exact Nat.le_refl _⟩, ⟨by repeat (first | (with_reducible first | exact HB.out | apply below_alloc | apply pw_below_drewN | apply below_drew1) | exact HB.out)⟩⟩
        · rw [if_neg c9] at H
          have c9b0 : (t102 == 0) = false := beq_eq_false_iff_ne.mpr c9
          have c9b1 : (t102 != 0) = true := bne_iff_ne.mpr c9
          have H' := Aside0.mk H
          clear H
          go_wp2_with (first | (go_at_call 16; (refine (drovewaylaw09_few.calls _ _ l1 _ _ ([] : List Int) true _ ?side1 ?side2 ?side3 ?side4 A5.out).mono ?_); (case side1 => repeat (first | exact (Kd.C_below HR1.out HB.out) | (with_reducible refine Kd.C_alloc ?_ _) | (with_reducible refine Kd.C_drewN ?_ _) | (with_reducible refine Kd.C_drew ?_))); (case side2 => exact HC1.out); (case side3 => exact Kd.C_nil _ _); (case side4 => exact Nat.le_refl _); rintro e w' ⟨rfl, ⟨nd, rfl⟩⟩; (try first | exact ⟨rfl, _, World.drewN_drewN _ _ _⟩ | exact ⟨rfl, _, Eq.trans (World.drewN_drewN _ _ _) (congrArg (World.drewN _) (Nat.add_assoc _ _ _))⟩)) | (go_at_call 24; (with_reducible refine (drovewayref09_Ties.calls k a0 _ _ l1 t102 _ ?side1 ?side2 A8.out).mono ?_); (case side1 => repeat (first | exact (Kd.C_below HR1.out (by repeat (first | (with_reducible first | exact HB.out | apply below_alloc | apply pw_below_drewN | apply below_drew1) | exact HB.out))) | (with_reducible refine Kd.C_alloc ?_ _) | (with_reducible refine Kd.C_drewN ?_ _) | (with_reducible refine Kd.C_drew ?_))); (case side2 => exact HC1.out); rintro e w' ⟨rfl, ⟨nd, rfl⟩⟩; (try first | exact ⟨rfl, _, World.drewN_drewN _ _ _⟩ | exact ⟨rfl, _, Eq.trans (World.drewN_drewN _ _ _) (congrArg (World.drewN _) (Nat.add_assoc _ _ _))⟩)))
          repeat (go_quiet (first | (go_at_call 16; (refine (drovewaylaw09_few.calls _ _ l1 _ _ ([] : List Int) true _ ?side1 ?side2 ?side3 ?side4 A5.out).mono ?_); (case side1 => repeat (first | exact (Kd.C_below HR1.out HB.out) | (with_reducible refine Kd.C_alloc ?_ _) | (with_reducible refine Kd.C_drewN ?_ _) | (with_reducible refine Kd.C_drew ?_))); (case side2 => exact HC1.out); (case side3 => exact Kd.C_nil _ _); (case side4 => exact Nat.le_refl _); rintro e w' ⟨rfl, ⟨nd, rfl⟩⟩; (try first | exact ⟨rfl, _, World.drewN_drewN _ _ _⟩ | exact ⟨rfl, _, Eq.trans (World.drewN_drewN _ _ _) (congrArg (World.drewN _) (Nat.add_assoc _ _ _))⟩)) | (go_at_call 24; (with_reducible refine (drovewayref09_Ties.calls k a0 _ _ l1 t102 _ ?side1 ?side2 A8.out).mono ?_); (case side1 => repeat (first | exact (Kd.C_below HR1.out (by repeat (first | (with_reducible first | exact HB.out | apply below_alloc | apply pw_below_drewN | apply below_drew1) | exact HB.out))) | (with_reducible refine Kd.C_alloc ?_ _) | (with_reducible refine Kd.C_drewN ?_ _) | (with_reducible refine Kd.C_drew ?_))); (case side2 => exact HC1.out); rintro e w' ⟨rfl, ⟨nd, rfl⟩⟩; (try first | exact ⟨rfl, _, World.drewN_drewN _ _ _⟩ | exact ⟨rfl, _, Eq.trans (World.drewN_drewN _ _ _) (congrArg (World.drewN _) (Nat.add_assoc _ _ _))⟩))); try go_wp2_with (first | (go_at_call 16; (refine (drovewaylaw09_few.calls _ _ l1 _ _ ([] : List Int) true _ ?side1 ?side2 ?side3 ?side4 A5.out).mono ?_); (case side1 => repeat (first | exact (Kd.C_below HR1.out HB.out) | (with_reducible refine Kd.C_alloc ?_ _) | (with_reducible refine Kd.C_drewN ?_ _) | (with_reducible refine Kd.C_drew ?_))); (case side2 => exact HC1.out); (case side3 => exact Kd.C_nil _ _); (case side4 => exact Nat.le_refl _); rintro e w' ⟨rfl, ⟨nd, rfl⟩⟩; (try first | exact ⟨rfl, _, World.drewN_drewN _ _ _⟩ | exact ⟨rfl, _, Eq.trans (World.drewN_drewN _ _ _) (congrArg (World.drewN _) (Nat.add_assoc _ _ _))⟩)) | (go_at_call 24; (with_reducible refine (drovewayref09_Ties.calls k a0 _ _ l1 t102 _ ?side1 ?side2 A8.out).mono ?_); (case side1 => repeat (first | exact (Kd.C_below HR1.out (by repeat (first | (with_reducible first | exact HB.out | apply below_alloc | apply pw_below_drewN | apply below_drew1) | exact HB.out))) | (with_reducible refine Kd.C_alloc ?_ _) | (with_reducible refine Kd.C_drewN ?_ _) | (with_reducible refine Kd.C_drew ?_))); (case side2 => exact HC1.out); rintro e w' ⟨rfl, ⟨nd, rfl⟩⟩; (try first | exact ⟨rfl, _, World.drewN_drewN _ _ _⟩ | exact ⟨rfl, _, Eq.trans (World.drewN_drewN _ _ _) (congrArg (World.drewN _) (Nat.add_assoc _ _ _))⟩))))
          go_meet
          case rel => exact ⟨_, (true), (by first | rfl | (simp; done) | (simp [*]; done)), H', ⟨by first | omega | exact Nat.le_refl _⟩, ⟨by repeat (first | (with_reducible first | exact HB.out | apply below_alloc | apply pw_below_drewN | apply below_drew1) | exact HB.out)⟩⟩
    · replace c6 := Bool.eq_false_iff.mpr c6
      subst c6
      have H1 : (drovewaylaw09_FeudsFewer.j0 k a0 l1 l2 true) = some r := by rw [if_neg (show ¬ (false = true) by decide)] at H; exact H
      clear H
      have H := H1
      clear H1
      have H' := Aside0.mk H
      clear H
      go_wp2_with (first | (go_at_call 16; (refine (drovewaylaw09_few.calls _ _ l1 _ _ ([] : List Int) false _ ?side1 ?side2 ?side3 ?side4 A5.out).mono ?_); (case side1 => repeat (first | exact (Kd.C_below HR1.out HB.out) | (with_reducible refine Kd.C_alloc ?_ _) | (with_reducible refine Kd.C_drewN ?_ _) | (with_reducible refine Kd.C_drew ?_))); (case side2 => exact HC1.out); (case side3 => exact Kd.C_nil _ _); (case side4 => exact Nat.le_refl _); rintro e w' ⟨rfl, ⟨nd, rfl⟩⟩; (try first | exact ⟨rfl, _, World.drewN_drewN _ _ _⟩ | exact ⟨rfl, _, Eq.trans (World.drewN_drewN _ _ _) (congrArg (World.drewN _) (Nat.add_assoc _ _ _))⟩)))
      repeat (go_quiet (first | (go_at_call 16; (refine (drovewaylaw09_few.calls _ _ l1 _ _ ([] : List Int) false _ ?side1 ?side2 ?side3 ?side4 A5.out).mono ?_); (case side1 => repeat (first | exact (Kd.C_below HR1.out HB.out) | (with_reducible refine Kd.C_alloc ?_ _) | (with_reducible refine Kd.C_drewN ?_ _) | (with_reducible refine Kd.C_drew ?_))); (case side2 => exact HC1.out); (case side3 => exact Kd.C_nil _ _); (case side4 => exact Nat.le_refl _); rintro e w' ⟨rfl, ⟨nd, rfl⟩⟩; (try first | exact ⟨rfl, _, World.drewN_drewN _ _ _⟩ | exact ⟨rfl, _, Eq.trans (World.drewN_drewN _ _ _) (congrArg (World.drewN _) (Nat.add_assoc _ _ _))⟩))); try go_wp2_with (first | (go_at_call 16; (refine (drovewaylaw09_few.calls _ _ l1 _ _ ([] : List Int) false _ ?side1 ?side2 ?side3 ?side4 A5.out).mono ?_); (case side1 => repeat (first | exact (Kd.C_below HR1.out HB.out) | (with_reducible refine Kd.C_alloc ?_ _) | (with_reducible refine Kd.C_drewN ?_ _) | (with_reducible refine Kd.C_drew ?_))); (case side2 => exact HC1.out); (case side3 => exact Kd.C_nil _ _); (case side4 => exact Nat.le_refl _); rintro e w' ⟨rfl, ⟨nd, rfl⟩⟩; (try first | exact ⟨rfl, _, World.drewN_drewN _ _ _⟩ | exact ⟨rfl, _, Eq.trans (World.drewN_drewN _ _ _) (congrArg (World.drewN _) (Nat.add_assoc _ _ _))⟩))))
      go_meet
      case rel => exact ⟨_, (true), (by first | rfl | (simp; done) | (simp [*]; done)), H', ⟨by first | omega | exact Nat.le_refl _⟩, ⟨by repeat (first | (with_reducible first | exact HB.out | apply below_alloc | apply pw_below_drewN | apply below_drew1) | exact HB.out)⟩⟩
  case rest =>
    clear HC4
    try clear c1
    try clear c2
    try clear p2
    try clear c4
    try clear c6
    try clear c7
    try clear c7b0
    try clear c7b1
    try clear c9
    try clear c9b0
    try clear c9b1
    obtain ⟨kq, x35_3, rfl, HA, HJ3, HB⟩ := hcut
    cases kq with
    | zero => exact absurd HA.out (by simp [drovewaylaw09_FeudsFewer.j0])
    | succ kj3 =>
      have H := HA.out
      clear HA
      simp only [drovewaylaw09_FeudsFewer.j0] at H
      by_cases c10 : x35_3 = true
      · subst c10
        have H1 : ((drovewaylaw09_alive.f).bind fun t103 => (some t103)) = some r := by rw [if_pos rfl] at H; exact H
        clear H
        have H := H1
        clear H1
        replace H := Option.bind_eq_some_iff.mp H
        obtain ⟨t103, A110, H⟩ := H
        replace H : (some t103) = some r := H
        have A11 := Aside0.mk A110
        clear A110
        obtain rfl := Option.some.inj H
        go_wp2_with (first | (go_at_call 17; (with_reducible refine (drovewaylaw09_alive.calls  t103 _ A11.out).mono ?_); rintro e w12 ⟨rfl, hb⟩; have n0_ := Aside0.mk (below_step (by repeat (first | (with_reducible first | exact HB.out | apply below_alloc | apply pw_below_drewN | apply below_drew1) | exact HB.out)) hb); clear HB; have HB := n0_; clear n0_; (try clear hb); (try clear hb2); (try clear hk); (try clear hi)))
        repeat (go_quiet (first | (go_at_call 17; (with_reducible refine (drovewaylaw09_alive.calls  t103 _ A11.out).mono ?_); rintro e w12 ⟨rfl, hb⟩; have n0_ := Aside0.mk (below_step (by repeat (first | (with_reducible first | exact HB.out | apply below_alloc | apply pw_below_drewN | apply below_drew1) | exact HB.out)) hb); clear HB; have HB := n0_; clear n0_; (try clear hb); (try clear hb2); (try clear hk); (try clear hi))); try go_wp2_with (first | (go_at_call 17; (with_reducible refine (drovewaylaw09_alive.calls  t103 _ A11.out).mono ?_); rintro e w12 ⟨rfl, hb⟩; have n0_ := Aside0.mk (below_step (by repeat (first | (with_reducible first | exact HB.out | apply below_alloc | apply pw_below_drewN | apply below_drew1) | exact HB.out)) hb); clear HB; have HB := n0_; clear n0_; (try clear hb); (try clear hb2); (try clear hk); (try clear hi))))
        go_ret
        exact ⟨by first | rfl | (simp [errW_none, errW_some] <;> rfl) | (simp [*, errW_none, errW_some] <;> rfl), by repeat (first | (with_reducible first | exact HB.out | apply below_alloc | apply pw_below_drewN | apply below_drew1) | exact HB.out)⟩
      · replace c10 := Bool.eq_false_iff.mpr c10
        subst c10
        have H1 : ((feuds_Least.f a0 l1).bind fun bt104 => ((some (([] : List (S39)) : List (S39))).bind fun y109 => (if y109.length + l1.length < 5864062014805 then (drovewaylaw09_FeudsFewer.l0 kj3 a0 l1 l2 bt104.2.1 bt104.2.2 (y109 ++ l1) 0) else (none)))) = some r := by rw [if_neg (show ¬ (false = true) by decide)] at H; exact H
        clear H
        have H := H1
        clear H1
        replace H := Option.bind_eq_some_iff.mp H
        obtain ⟨⟨t104, t105, t106⟩, A130, H⟩ := H
        replace H : ((some (([] : List (S39)) : List (S39))).bind fun y109 => (if y109.length + l1.length < 5864062014805 then (drovewaylaw09_FeudsFewer.l0 kj3 a0 l1 l2 t105 t106 (y109 ++ l1) 0) else (none))) = some r := H
        have A13 := Aside0.mk A130
        clear A130
        obtain ⟨y109, hy109⟩ : ∃ y_ : List (S39), y_ = (([] : List (S39))) := ⟨_, rfl⟩
        replace H : (if y109.length + l1.length < 5864062014805 then (drovewaylaw09_FeudsFewer.l0 kj3 a0 l1 l2 t105 t106 (y109 ++ l1) 0) else (none)) = some r := by first | (rw [hy109]; with_reducible exact H) | (have H2_ := (Option.bind_some _ _).symm.trans H; rw [hy109]; with_reducible exact H2_) | (have H2_ := (Option.bind_some _ _).symm.trans H; with_reducible exact H2_) | with_reducible exact H | (rw [hy109]; exact H) | exact H
        have Ny109 := Aside0.mk hy109
        clear hy109
        by_cases c14 : y109.length + l1.length < 5864062014805
        · rw [if_pos c14] at H
          have LMc14 := Aside0.mk c14
          clear c14
          obtain ⟨y112, hy112⟩ : ∃ y_ : List (S39), y_ = (y109 ++ l1) := ⟨_, rfl⟩
          replace H : (drovewaylaw09_FeudsFewer.l0 kj3 a0 l1 l2 t105 t106 y112 0) = some r := by first | (rw [hy112]; with_reducible exact H) | (have H2_ := (Option.bind_some _ _).symm.trans H; rw [hy112]; with_reducible exact H2_) | (have H2_ := (Option.bind_some _ _).symm.trans H; with_reducible exact H2_) | with_reducible exact H | (rw [hy112]; exact H) | exact H
          have Ny112 := Aside0.mk hy112
          clear hy112
          have H' := Aside0.mk H
          clear H
          go_wp2_with (first | (go_at_call 25; (with_reducible refine (feuds_Least.calls a0 _ _ l1 t104 t105 t106 _ ?side1 ?side2 A13.out).mono ?_); (case side1 => repeat (first | exact (Kd.C_below HR1.out HB.out) | (with_reducible refine Kd.C_alloc ?_ _) | (with_reducible refine Kd.C_drewN ?_ _) | (with_reducible refine Kd.C_drew ?_))); (case side2 => exact HC1.out); rintro e w15 ⟨v107, rfl, ho0, hb⟩; have n0_ := Aside0.mk (Kd.R_lower ho0 (below_size (by repeat (first | (with_reducible first | exact HB.out | apply below_alloc | apply pw_below_drewN | apply below_drew1) | exact HB.out)))); have n1_ := Aside0.mk (below_step (by repeat (first | (with_reducible first | exact HB.out | apply below_alloc | apply pw_below_drewN | apply below_drew1) | exact HB.out)) hb); clear HB; have HO108 := n0_; have HB := n1_; clear n0_ n1_; (try clear hb); (try clear hb2); (try clear hk); (try clear hi); (try clear ho0)) | ((with_reducible refine gate_dst (N := 44) rfl ?_); (try (refine gate_guard (by rfl) ?_; dsimp only)); refine Kd.R_lit k39 _ 39 ?hg (N := 44) ?hd (xs := ([] : List (S39))) (inner := []) (ok := fun _ => True) (okp := fun _ => True) ?hr ?hp (fun _ hk => hk) trivial (Below.refl _ _) (Nat.le_refl _) (by simp) ?_; (case hd => rfl); (case hg => rfl); (case hr => first | (go_simp; done) | (go_simp; rfl)); (case hp => exact (Reps.none _ _)); intro v110 w16 ho17 hb hg_ hnew_; clear hg_ hnew_; (first | rw [← Ny109.out] at ho17 | (simp only [Int.reduceToNat] at ho17; rw [← Ny109.out] at ho17)); have n0_ := Aside0.mk (Kd.R_below (by (with_reducible repeat (first | apply Kd.R_alloc | apply Kd.R_drewN | apply Kd.R_drew)); exact HO108.out) hb); have n1_ := Aside0.mk (Kd.R_lower ho17 (below_size (by repeat (first | (with_reducible first | exact HB.out | apply below_alloc | apply pw_below_drewN | apply below_drew1) | exact HB.out)))); have n2_ := Aside0.mk (below_step (by repeat (first | (with_reducible first | exact HB.out | apply below_alloc | apply pw_below_drewN | apply below_drew1) | exact HB.out)) hb); clear HO108; clear HB; have HO108 := n0_; have HO111 := n1_; have HB := n2_; clear n0_ n1_ n2_; clear hb ho17) | ((with_reducible refine gate_builtin (b := .append) (xs := #[.tmp 44, .tmp 45]) rfl ?_); (try (refine gate_guard (by rfl) ?_; dsimp only)); at_builtin; refine Kd.R_append_rows k39 (w0 := w) w.heap.size rfl (.tmp 44) (.tmp 45) 22 39 (.agg #[(.int .i64 0), (.int .i64 0), (.bool false)]) 24 rfl Try.underlying22 info39 rfl (by decide) (by omega) v110 y109 l1 _ _ _ (fun _ => True) (fun _ => False) rfl rfl ?aO ?aR (fun _ _ h => h) (fun _ h => h.elim) ?aF ?aB ?aS ?aL ?_; (case aR => repeat (first | exact (Kd.C_below HR1.out HB.out) | (with_reducible refine Kd.C_alloc ?_ _) | (with_reducible refine Kd.C_drewN ?_ _) | (with_reducible refine Kd.C_drew ?_))); (case aB => exact (by repeat (first | (with_reducible first | exact HB.out | apply below_alloc | apply pw_below_drewN | apply below_drew1) | exact HB.out))); (case aF => exact (fun _ _ => trivial)); (case aO => exact (by (with_reducible repeat (first | apply Kd.R_alloc | apply Kd.R_drewN | apply Kd.R_drew)); exact HO111.out)); (case aS => exact (below_size (by repeat (first | (with_reducible first | exact HB.out | apply below_alloc | apply pw_below_drewN | apply below_drew1) | exact HB.out)))); (case aL => have := LMc14.out; omega); intro v113 w18 ho hb hg hat; rw [← Ny112.out] at ho; have n0_ := Aside0.mk (Kd.R_over' (by (with_reducible repeat (first | apply Kd.R_alloc | apply Kd.R_drewN | apply Kd.R_drew)); exact HO108.out) (Kd.R_typed (by (with_reducible repeat (first | apply Kd.R_alloc | apply Kd.R_drewN | apply Kd.R_drew)); exact HO111.out)) (by decide) hg); have n1_ := Aside0.mk (hb); have n2_ := Aside0.mk (ho); clear HO108; clear HB; clear HO111; have HO108 := n0_; have HB := n1_; have HO114 := n2_; clear n0_ n1_ n2_; clear ho hb hg hat))
          repeat (go_quiet (first | (go_at_call 25; (with_reducible refine (feuds_Least.calls a0 _ _ l1 t104 t105 t106 _ ?side1 ?side2 A13.out).mono ?_); (case side1 => repeat (first | exact (Kd.C_below HR1.out HB.out) | (with_reducible refine Kd.C_alloc ?_ _) | (with_reducible refine Kd.C_drewN ?_ _) | (with_reducible refine Kd.C_drew ?_))); (case side2 => exact HC1.out); rintro e w15 ⟨v107, rfl, ho0, hb⟩; have n0_ := Aside0.mk (Kd.R_lower ho0 (below_size (by repeat (first | (with_reducible first | exact HB.out | apply below_alloc | apply pw_below_drewN | apply below_drew1) | exact HB.out)))); have n1_ := Aside0.mk (below_step (by repeat (first | (with_reducible first | exact HB.out | apply below_alloc | apply pw_below_drewN | apply below_drew1) | exact HB.out)) hb); clear HB; have HO108 := n0_; have HB := n1_; clear n0_ n1_; (try clear hb); (try clear hb2); (try clear hk); (try clear hi); (try clear ho0)) | ((with_reducible refine gate_dst (N := 44) rfl ?_); (try (refine gate_guard (by rfl) ?_; dsimp only)); refine Kd.R_lit k39 _ 39 ?hg (N := 44) ?hd (xs := ([] : List (S39))) (inner := []) (ok := fun _ => True) (okp := fun _ => True) ?hr ?hp (fun _ hk => hk) trivial (Below.refl _ _) (Nat.le_refl _) (by simp) ?_; (case hd => rfl); (case hg => rfl); (case hr => first | (go_simp; done) | (go_simp; rfl)); (case hp => exact (Reps.none _ _)); intro v110 w16 ho17 hb hg_ hnew_; clear hg_ hnew_; (first | rw [← Ny109.out] at ho17 | (simp only [Int.reduceToNat] at ho17; rw [← Ny109.out] at ho17)); have n0_ := Aside0.mk (Kd.R_below (by (with_reducible repeat (first | apply Kd.R_alloc | apply Kd.R_drewN | apply Kd.R_drew)); exact HO108.out) hb); have n1_ := Aside0.mk (Kd.R_lower ho17 (below_size (by repeat (first | (with_reducible first | exact HB.out | apply below_alloc | apply pw_below_drewN | apply below_drew1) | exact HB.out)))); have n2_ := Aside0.mk (below_step (by repeat (first | (with_reducible first | exact HB.out | apply below_alloc | apply pw_below_drewN | apply below_drew1) | exact HB.out)) hb); clear HO108; clear HB; have HO108 := n0_; have HO111 := n1_; have HB := n2_; clear n0_ n1_ n2_; clear hb ho17) | ((with_reducible refine gate_builtin (b := .append) (xs := #[.tmp 44, .tmp 45]) rfl ?_); (try (refine gate_guard (by rfl) ?_; dsimp only)); at_builtin; refine Kd.R_append_rows k39 (w0 := w) w.heap.size rfl (.tmp 44) (.tmp 45) 22 39 (.agg #[(.int .i64 0), (.int .i64 0), (.bool false)]) 24 rfl Try.underlying22 info39 rfl (by decide) (by omega) v110 y109 l1 _ _ _ (fun _ => True) (fun _ => False) rfl rfl ?aO ?aR (fun _ _ h => h) (fun _ h => h.elim) ?aF ?aB ?aS ?aL ?_; (case aR => repeat (first | exact (Kd.C_below HR1.out HB.out) | (with_reducible refine Kd.C_alloc ?_ _) | (with_reducible refine Kd.C_drewN ?_ _) | (with_reducible refine Kd.C_drew ?_))); (case aB => exact (by repeat (first | (with_reducible first | exact HB.out | apply below_alloc | apply pw_below_drewN | apply below_drew1) | exact HB.out))); (case aF => exact (fun _ _ => trivial)); (case aO => exact (by (with_reducible repeat (first | apply Kd.R_alloc | apply Kd.R_drewN | apply Kd.R_drew)); exact HO111.out)); (case aS => exact (below_size (by repeat (first | (with_reducible first | exact HB.out | apply below_alloc | apply pw_below_drewN | apply below_drew1) | exact HB.out)))); (case aL => have := LMc14.out; omega); intro v113 w18 ho hb hg hat; rw [← Ny112.out] at ho; have n0_ := Aside0.mk (Kd.R_over' (by (with_reducible repeat (first | apply Kd.R_alloc | apply Kd.R_drewN | apply Kd.R_drew)); exact HO108.out) (Kd.R_typed (by (with_reducible repeat (first | apply Kd.R_alloc | apply Kd.R_drewN | apply Kd.R_drew)); exact HO111.out)) (by decide) hg); have n1_ := Aside0.mk (hb); have n2_ := Aside0.mk (ho); clear HO108; clear HB; clear HO111; have HO108 := n0_; have HB := n1_; have HO114 := n2_; clear n0_ n1_ n2_; clear ho hb hg hat)); try go_wp2_with (first | (go_at_call 25; (with_reducible refine (feuds_Least.calls a0 _ _ l1 t104 t105 t106 _ ?side1 ?side2 A13.out).mono ?_); (case side1 => repeat (first | exact (Kd.C_below HR1.out HB.out) | (with_reducible refine Kd.C_alloc ?_ _) | (with_reducible refine Kd.C_drewN ?_ _) | (with_reducible refine Kd.C_drew ?_))); (case side2 => exact HC1.out); rintro e w15 ⟨v107, rfl, ho0, hb⟩; have n0_ := Aside0.mk (Kd.R_lower ho0 (below_size (by repeat (first | (with_reducible first | exact HB.out | apply below_alloc | apply pw_below_drewN | apply below_drew1) | exact HB.out)))); have n1_ := Aside0.mk (below_step (by repeat (first | (with_reducible first | exact HB.out | apply below_alloc | apply pw_below_drewN | apply below_drew1) | exact HB.out)) hb); clear HB; have HO108 := n0_; have HB := n1_; clear n0_ n1_; (try clear hb); (try clear hb2); (try clear hk); (try clear hi); (try clear ho0)) | ((with_reducible refine gate_dst (N := 44) rfl ?_); (try (refine gate_guard (by rfl) ?_; dsimp only)); refine Kd.R_lit k39 _ 39 ?hg (N := 44) ?hd (xs := ([] : List (S39))) (inner := []) (ok := fun _ => True) (okp := fun _ => True) ?hr ?hp (fun _ hk => hk) trivial (Below.refl _ _) (Nat.le_refl _) (by simp) ?_; (case hd => rfl); (case hg => rfl); (case hr => first | (go_simp; done) | (go_simp; rfl)); (case hp => exact (Reps.none _ _)); intro v110 w16 ho17 hb hg_ hnew_; clear hg_ hnew_; (first | rw [← Ny109.out] at ho17 | (simp only [Int.reduceToNat] at ho17; rw [← Ny109.out] at ho17)); have n0_ := Aside0.mk (Kd.R_below (by (with_reducible repeat (first | apply Kd.R_alloc | apply Kd.R_drewN | apply Kd.R_drew)); exact HO108.out) hb); have n1_ := Aside0.mk (Kd.R_lower ho17 (below_size (by repeat (first | (with_reducible first | exact HB.out | apply below_alloc | apply pw_below_drewN | apply below_drew1) | exact HB.out)))); have n2_ := Aside0.mk (below_step (by repeat (first | (with_reducible first | exact HB.out | apply below_alloc | apply pw_below_drewN | apply below_drew1) | exact HB.out)) hb); clear HO108; clear HB; have HO108 := n0_; have HO111 := n1_; have HB := n2_; clear n0_ n1_ n2_; clear hb ho17) | ((with_reducible refine gate_builtin (b := .append) (xs := #[.tmp 44, .tmp 45]) rfl ?_); (try (refine gate_guard (by rfl) ?_; dsimp only)); at_builtin; refine Kd.R_append_rows k39 (w0 := w) w.heap.size rfl (.tmp 44) (.tmp 45) 22 39 (.agg #[(.int .i64 0), (.int .i64 0), (.bool false)]) 24 rfl Try.underlying22 info39 rfl (by decide) (by omega) v110 y109 l1 _ _ _ (fun _ => True) (fun _ => False) rfl rfl ?aO ?aR (fun _ _ h => h) (fun _ h => h.elim) ?aF ?aB ?aS ?aL ?_; (case aR => repeat (first | exact (Kd.C_below HR1.out HB.out) | (with_reducible refine Kd.C_alloc ?_ _) | (with_reducible refine Kd.C_drewN ?_ _) | (with_reducible refine Kd.C_drew ?_))); (case aB => exact (by repeat (first | (with_reducible first | exact HB.out | apply below_alloc | apply pw_below_drewN | apply below_drew1) | exact HB.out))); (case aF => exact (fun _ _ => trivial)); (case aO => exact (by (with_reducible repeat (first | apply Kd.R_alloc | apply Kd.R_drewN | apply Kd.R_drew)); exact HO111.out)); (case aS => exact (below_size (by repeat (first | (with_reducible first | exact HB.out | apply below_alloc | apply pw_below_drewN | apply below_drew1) | exact HB.out)))); (case aL => have := LMc14.out; omega); intro v113 w18 ho hb hg hat; rw [← Ny112.out] at ho; have n0_ := Aside0.mk (Kd.R_over' (by (with_reducible repeat (first | apply Kd.R_alloc | apply Kd.R_drewN | apply Kd.R_drew)); exact HO108.out) (Kd.R_typed (by (with_reducible repeat (first | apply Kd.R_alloc | apply Kd.R_drewN | apply Kd.R_drew)); exact HO111.out)) (by decide) hg); have n1_ := Aside0.mk (hb); have n2_ := Aside0.mk (ho); clear HO108; clear HB; clear HO111; have HO108 := n0_; have HB := n1_; have HO114 := n2_; clear n0_ n1_ n2_; clear ho hb hg hat)))
          go_loopg [11] kj3 (fun kq v11 w' => ∃ (x10_2 : List (S39)) (x11_2 : Int), v11 = .int .i64 x11_2 ∧ Aside0 (drovewaylaw09_FeudsFewer.l0 kq a0 l1 l2 t105 t106 x10_2 x11_2 = some r) ∧ Aside0 (kq ≤ kj3) ∧ Aside0 (Kd.R (Kd.int .i64) 3 w' w.heap.size (fun _ => True) v107 t105) ∧ Aside0 (Kd.R k39 39 w' w.heap.size (fun _ => True) v113 x10_2) ∧ Aside0 (Below w.heap.size w w'))
          case atStart => exact ⟨(y112), (0), (by first | rfl | (simp; done) | (simp [*]; done)), H', ⟨Nat.le_refl _⟩, ⟨by (with_reducible repeat (first | apply Kd.R_alloc | apply Kd.R_drewN | apply Kd.R_drew)); exact HO108.out⟩, ⟨by (with_reducible repeat (first | apply Kd.R_alloc | apply Kd.R_drewN | apply Kd.R_drew)); exact HO114.out⟩, ⟨by repeat (first | (with_reducible first | exact HB.out | apply below_alloc | apply pw_below_drewN | apply below_drew1) | exact HB.out)⟩⟩
          case round =>
            clear H'
            try clear c1
            try clear c2
            try clear p2
            try clear c4
            try clear c6
            try clear c7
            try clear c7b0
            try clear c7b1
            try clear c9
            try clear c9b0
            try clear c9b1
            try clear c10
            try clear c14
            try clear p2
            obtain ⟨x10_2, x11_2, rfl, HA, HK2, HO_8, HO_10, HB⟩ := hrel
            cases gk with
            | zero => exact absurd HA.out (by simp [drovewaylaw09_FeudsFewer.l0])
            | succ k2 =>
              have H := HA.out
              clear HA
              simp only [drovewaylaw09_FeudsFewer.l0] at H
              by_cases c19 : x11_2 < (l2.length : Int)
              · rw [if_pos c19] at H
                have c19b0 : decide (x11_2 < (l2.length : Int)) = true := decide_eq_true c19
                clear c19
                by_cases c20 : 0 ≤ x11_2
                · rw [if_pos c20] at H
                  have c20b0 : decide (0 ≤ x11_2) = true := decide_eq_true c20
                  clear c20
                  by_cases c21 : (l1.length : Int) = 0
                  · rw [if_pos c21] at H
                    exact absurd H (by simp)
                  · rw [if_neg c21] at H
                    have c21b0 : ((l1.length : Int) == 0) = false := beq_eq_false_iff_ne.mpr c21
                    have c21b1 : ((l1.length : Int) != 0) = true := bne_iff_ne.mpr c21
                    have c21b2 : ¬ (l1 = []) := fun h_ => c21 (by rw [h_]; rfl)
                    obtain ⟨ji22, hji22⟩ : ∃ j_ : Int, (Int.tmod (wrap64 (rd l2 x11_2)) (l1.length : Int)) = j_ := ⟨_, rfl⟩
                    replace H : (if 0 ≤ (ji22) then (if (ji22) < (x10_2.length : Int) then (drovewaylaw09_FeudsFewer.l0 k2 a0 l1 l2 t105 t106 (x10_2.set ((ji22) : Int).toNat (⟨(rd_T39 x10_2 (ji22)).f0, (rd_T39 x10_2 (ji22)).f1, !((rd_T39 x10_2 (ji22)).f2)⟩ : S39)) (wrap64 (x11_2 + 1))) else (none)) else (none)) = some r := by first | (rw [hji22] at H; exact H) | (simp only [hji22] at H ⊢; exact H)
                    by_cases c23 : 0 ≤ (ji22)
                    · rw [if_pos c23] at H
                      have c23b0 : decide (0 ≤ (ji22)) = true := decide_eq_true c23
                      clear c23
                      by_cases c24 : (ji22) < (x10_2.length : Int)
                      · rw [if_pos c24] at H
                        have c24b0 : decide ((ji22) < (x10_2.length : Int)) = true := decide_eq_true c24
                        clear c24
                        obtain ⟨y117, hy117⟩ : ∃ y_ : List (S39), y_ = (x10_2.set ((ji22) : Int).toNat (⟨(rd_T39 x10_2 (ji22)).f0, (rd_T39 x10_2 (ji22)).f1, !((rd_T39 x10_2 (ji22)).f2)⟩ : S39)) := ⟨_, rfl⟩
                        replace H : (drovewaylaw09_FeudsFewer.l0 k2 a0 l1 l2 t105 t106 y117 (wrap64 (x11_2 + 1))) = some r := by first | (rw [hy117]; with_reducible exact H) | (have H2_ := (Option.bind_some _ _).symm.trans H; rw [hy117]; with_reducible exact H2_) | (have H2_ := (Option.bind_some _ _).symm.trans H; with_reducible exact H2_) | with_reducible exact H | (rw [hy117]; exact H) | exact H
                        have Ny117 := Aside0.mk hy117
                        clear hy117
                        have H' := Aside0.mk H
                        clear H
                        have p115 : 0 ≤ (x11_2 : Int) := of_decide_eq_true (by first | (with_reducible assumption) | assumption)
                        have q115 : x11_2 < (l2.length : Int) := of_decide_eq_true (by first | (with_reducible assumption) | assumption)
                        obtain ⟨ad115, e115, hx115_0⟩ := Kd.at_int HR2.out x11_2 p115 q115
                        cases e115
                        replace hx115_0 := (HB.out.cell (World.block_lt_of_cell? w _ hx115_0)).trans hx115_0
                        replace p115 := eq_true p115
                        replace q115 := eq_true q115
                        obtain ⟨Ao26, co26, eo26⟩ := Kd.R_slice HO_10.out
                        subst eo26
                        have p116 : 0 ≤ ((ji22) : Int) := of_decide_eq_true (by first | (with_reducible assumption) | assumption)
                        have q116 : (ji22) < (x10_2.length : Int) := of_decide_eq_true (by first | (with_reducible assumption) | assumption)
                        obtain ⟨ad116, e116, hx116_0, hx116_1, hx116_2⟩ := at_T39 (Kd.R_reads' HO_10.out).2.2 (ji22) p116 q116
                        cases e116
                        replace p116 := eq_true p116
                        replace q116 := eq_true q116
                        have p25 : 0 ≤ ((ji22) : Int) := of_decide_eq_true (by first | (with_reducible assumption) | assumption)
                        have q25 : ((ji22) : Int) < ((x10_2.length : Int) : Int) := of_decide_eq_true (by first | (with_reducible assumption) | assumption)
                        obtain ⟨go25, co25, eo25, gb25, gl25, cl25, HG25⟩ := Kd.R_form HO_10.out (by omega)
                        (first | cases eo25 | (injection eo25 with ea_ en_ ec_; (first | subst ea_ | (injection ea_ with ea_; subst ea_)); subst ec_; clear en_))
                        have GB25 := Aside0.mk gb25
                        have GG25 := Aside0.mk HG25
                        clear gb25 gl25 HG25
                        (first | simp only [add_plain] at hx116_0 | skip)
                        (first | simp only [add_plain] at hx116_1 | skip)
                        (first | simp only [add_plain] at hx116_2 | skip)
                        obtain ⟨ce25, hcl25, hM25, hcc25, hfr25⟩ := Kd.R_elem HO_10.out z39 ((ji22) : Int) p25 q25
                        obtain rfl := k39_openM hM25
                        have hx25_0 : wr.cell? ⟨go25, ((ji22) : Int).toNat * 3, none⟩ = some (.int .i64 ((rd_T39 x10_2 (ji22)).f0)) := hcc25 0 _ rfl
                        have hx25_1 : wr.cell? ⟨go25, ((ji22) : Int).toNat * 3 + 1, none⟩ = some (.int .i64 ((rd_T39 x10_2 (ji22)).f1)) := hcc25 1 _ rfl
                        have hx25_2 : wr.cell? ⟨go25, ((ji22) : Int).toNat * 3 + 2, none⟩ = some (.bool ((rd_T39 x10_2 (ji22)).f2)) := hcc25 2 _ rfl
                        have hf25_0 : wr.frozen? ⟨go25, ((ji22) : Int).toNat * 3, none⟩ = false := hfr25 0
                        have hf25_1 : wr.frozen? ⟨go25, ((ji22) : Int).toNat * 3 + 1, none⟩ = false := hfr25 1
                        have hf25_2 : wr.frozen? ⟨go25, ((ji22) : Int).toNat * 3 + 2, none⟩ = false := hfr25 2
                        clear hcl25 hcc25 hfr25 hM25
                        replace p25 := eq_true p25
                        replace q25 := eq_true q25
                        have HX27 := Aside0.mk (show Kd.R k39 39 wr w.heap.size (fun _ => True) (.slice (some ⟨go25, 0, none⟩) x10_2.length co26) x10_2 from (by (with_reducible repeat (first | apply Kd.R_alloc | apply Kd.R_drewN | apply Kd.R_drew)); exact HO_10.out))
                        obtain ⟨ce27, hcl27, hM27, hcc27, hfr27⟩ := Kd.R_elem HX27.out z39 ((ji22) : Int) (of_decide_eq_true (by first | (with_reducible assumption) | assumption)) (by have h_ : ((ji22) : Int) < ((x10_2.length : Int) : Int) := of_decide_eq_true (by first | (with_reducible assumption) | assumption); first | exact h_ | (have e_ := (Kd.R_reads' HO_10.out).1; omega) | simpa using h_)
                        obtain rfl := k39_openM hM27
                        have HP27 := Kd.R_seg HX27.out ((ji22) : Int) (of_decide_eq_true (by first | (with_reducible assumption) | assumption)) (by have h_ : ((ji22) : Int) < ((x10_2.length : Int) : Int) := of_decide_eq_true (by first | (with_reducible assumption) | assumption); first | exact h_ | (have e_ := (Kd.R_reads' HO_10.out).1; omega) | simpa using h_) (seg := [.bool (!((rd_T39 x10_2 (ji22)).f2))]) (j := 2) hcl27 hcc27 (show 3 ≤ 3 from by decide) (x' := (⟨(rd_T39 x10_2 (ji22)).f0, (rd_T39 x10_2 (ji22)).f1, !((rd_T39 x10_2 (ji22)).f2)⟩ : S39)) (k39_mkM _ _ _ (⟨(rd_T39 x10_2 (ji22)).f0, (rd_T39 x10_2 (ji22)).f1, !((rd_T39 x10_2 (ji22)).f2)⟩ : S39) ) (fun _ hk => hk)
                        have hx27_2 := hcc27 2 _ rfl
                        (try simp only [show (k39).sz = 3 from rfl, Nat.mul_one, Nat.add_zero] at hx27_2)
                        have hf27_2 := hfr27 2
                        (try simp only [show (k39).sz = 3 from rfl, Nat.mul_one, Nat.add_zero] at hf27_2)
                        clear hcl27 hcc27 hfr27 hM27
                        go_wp2_with (first | ((with_reducible refine gate_store (t := 4) (p := 70) rfl ?_); (try (rw [drewN_self wr]; generalize hq_ : World.drewN wr _ = wr; have n0_ := Aside0.mk (Kd.R_at hq_ HO_8.out); have n1_ := Aside0.mk (Kd.R_at hq_ HO_10.out); have n2_ := Aside0.mk (below_at hq_ HB.out); clear hq_ HO_8 HO_10 HB; have HO_8 := n0_; have HO_10 := n1_; have HB := n2_; clear n0_ n1_ n2_; (try (have HX27 := Aside0.mk (show Kd.R k39 39 wr w.heap.size (fun _ => True) (.slice (some ⟨go25, 0, none⟩) x10_2.length co26) x10_2 from (by (with_reducible repeat (first | apply Kd.R_alloc | apply Kd.R_drewN | apply Kd.R_drew)); exact HO_10.out)))); (try (obtain ⟨ce27, hcl27, hM27, hcc27, hfr27⟩ := Kd.R_elem HX27.out z39 ((ji22) : Int) (of_decide_eq_true (by first | (with_reducible assumption) | assumption)) (by have h_ : ((ji22) : Int) < ((x10_2.length : Int) : Int) := of_decide_eq_true (by first | (with_reducible assumption) | assumption); first | exact h_ | (have e_ := (Kd.R_reads' HO_10.out).1; omega) | simpa using h_))); (try (obtain rfl := k39_openM hM27)); (try (have HP27 := Kd.R_seg HX27.out ((ji22) : Int) (of_decide_eq_true (by first | (with_reducible assumption) | assumption)) (by have h_ : ((ji22) : Int) < ((x10_2.length : Int) : Int) := of_decide_eq_true (by first | (with_reducible assumption) | assumption); first | exact h_ | (have e_ := (Kd.R_reads' HO_10.out).1; omega) | simpa using h_) (seg := [.bool (!((rd_T39 x10_2 (ji22)).f2))]) (j := 2) hcl27 hcc27 (show 3 ≤ 3 from by decide) (x' := (⟨(rd_T39 x10_2 (ji22)).f0, (rd_T39 x10_2 (ji22)).f1, !((rd_T39 x10_2 (ji22)).f2)⟩ : S39)) (k39_mkM _ _ _ (⟨(rd_T39 x10_2 (ji22)).f0, (rd_T39 x10_2 (ji22)).f1, !((rd_T39 x10_2 (ji22)).f2)⟩ : S39) ) (fun _ hk => hk))); (try (have hx27_2 := hcc27 2 _ rfl)); (try (try simp only [show (k39).sz = 3 from rfl, Nat.mul_one, Nat.add_zero] at hx27_2)); (try (have hf27_2 := hfr27 2)); (try (try simp only [show (k39).sz = 3 from rfl, Nat.mul_one, Nat.add_zero] at hf27_2)); (try (clear hcl27 hcc27 hfr27 hM27)))); refine store_event (t := 4) (p := 70) (v := ?vo_w28) (w1 := (wr.setCell ⟨go25, ((ji22) : Int).toNat * 3 + 2, none⟩ (.bool (!((rd_T39 x10_2 (ji22)).f2))))) ?hg ?ho ?hn ?hr ?_; (case ho => rfl); (case hg => rfl); (case hn => rfl); (case hr => first | (go_simp; done) | (go_simp; rfl)); intro w28 hw; have hg : wr.grownBy w28 (some go25) := (by rw [hw]; exact HP27.2); have hp_ : Kd.R k39 39 w28 w.heap.size (fun _ => True) (.slice (some ⟨go25, 0, none⟩) x10_2.length co26) y117 := (by rw [hw, Ny117.out]; exact HP27.1); clear HP27; have n0_ := Aside0.mk (Kd.R_over' (v := (.slice (some ⟨go25, 0, none⟩) x10_2.length co26)) (by (with_reducible repeat (first | apply Kd.R_alloc | apply Kd.R_drewN | apply Kd.R_drew)); exact HO_8.out) (Kd.R_typed HO_10.out) (by decide) hg); have n1_ := Aside0.mk (hp_); have n2_ := Aside0.mk ((by rw [hw]; exact below_set (HB.out) GB25.out : Below w.heap.size w w28)); clear HO_8; clear HO_10; clear HB; have HO_8 := n0_; have HO_10 := n1_; have HB := n2_; clear n0_ n1_ n2_; clear hg hw hp_))
                        repeat (go_quiet (first | ((with_reducible refine gate_store (t := 4) (p := 70) rfl ?_); (try (rw [drewN_self wr]; generalize hq_ : World.drewN wr _ = wr; have n0_ := Aside0.mk (Kd.R_at hq_ HO_8.out); have n1_ := Aside0.mk (Kd.R_at hq_ HO_10.out); have n2_ := Aside0.mk (below_at hq_ HB.out); clear hq_ HO_8 HO_10 HB; have HO_8 := n0_; have HO_10 := n1_; have HB := n2_; clear n0_ n1_ n2_; (try (have HX27 := Aside0.mk (show Kd.R k39 39 wr w.heap.size (fun _ => True) (.slice (some ⟨go25, 0, none⟩) x10_2.length co26) x10_2 from (by (with_reducible repeat (first | apply Kd.R_alloc | apply Kd.R_drewN | apply Kd.R_drew)); exact HO_10.out)))); (try (obtain ⟨ce27, hcl27, hM27, hcc27, hfr27⟩ := Kd.R_elem HX27.out z39 ((ji22) : Int) (of_decide_eq_true (by first | (with_reducible assumption) | assumption)) (by have h_ : ((ji22) : Int) < ((x10_2.length : Int) : Int) := of_decide_eq_true (by first | (with_reducible assumption) | assumption); first | exact h_ | (have e_ := (Kd.R_reads' HO_10.out).1; omega) | simpa using h_))); (try (obtain rfl := k39_openM hM27)); (try (have HP27 := Kd.R_seg HX27.out ((ji22) : Int) (of_decide_eq_true (by first | (with_reducible assumption) | assumption)) (by have h_ : ((ji22) : Int) < ((x10_2.length : Int) : Int) := of_decide_eq_true (by first | (with_reducible assumption) | assumption); first | exact h_ | (have e_ := (Kd.R_reads' HO_10.out).1; omega) | simpa using h_) (seg := [.bool (!((rd_T39 x10_2 (ji22)).f2))]) (j := 2) hcl27 hcc27 (show 3 ≤ 3 from by decide) (x' := (⟨(rd_T39 x10_2 (ji22)).f0, (rd_T39 x10_2 (ji22)).f1, !((rd_T39 x10_2 (ji22)).f2)⟩ : S39)) (k39_mkM _ _ _ (⟨(rd_T39 x10_2 (ji22)).f0, (rd_T39 x10_2 (ji22)).f1, !((rd_T39 x10_2 (ji22)).f2)⟩ : S39) ) (fun _ hk => hk))); (try (have hx27_2 := hcc27 2 _ rfl)); (try (try simp only [show (k39).sz = 3 from rfl, Nat.mul_one, Nat.add_zero] at hx27_2)); (try (have hf27_2 := hfr27 2)); (try (try simp only [show (k39).sz = 3 from rfl, Nat.mul_one, Nat.add_zero] at hf27_2)); (try (clear hcl27 hcc27 hfr27 hM27)))); refine store_event (t := 4) (p := 70) (v := ?vo_w28) (w1 := (wr.setCell ⟨go25, ((ji22) : Int).toNat * 3 + 2, none⟩ (.bool (!((rd_T39 x10_2 (ji22)).f2))))) ?hg ?ho ?hn ?hr ?_; (case ho => rfl); (case hg => rfl); (case hn => rfl); (case hr => first | (go_simp; done) | (go_simp; rfl)); intro w28 hw; have hg : wr.grownBy w28 (some go25) := (by rw [hw]; exact HP27.2); have hp_ : Kd.R k39 39 w28 w.heap.size (fun _ => True) (.slice (some ⟨go25, 0, none⟩) x10_2.length co26) y117 := (by rw [hw, Ny117.out]; exact HP27.1); clear HP27; have n0_ := Aside0.mk (Kd.R_over' (v := (.slice (some ⟨go25, 0, none⟩) x10_2.length co26)) (by (with_reducible repeat (first | apply Kd.R_alloc | apply Kd.R_drewN | apply Kd.R_drew)); exact HO_8.out) (Kd.R_typed HO_10.out) (by decide) hg); have n1_ := Aside0.mk (hp_); have n2_ := Aside0.mk ((by rw [hw]; exact below_set (HB.out) GB25.out : Below w.heap.size w w28)); clear HO_8; clear HO_10; clear HB; have HO_8 := n0_; have HO_10 := n1_; have HB := n2_; clear n0_ n1_ n2_; clear hg hw hp_)); try go_wp2_with (first | ((with_reducible refine gate_store (t := 4) (p := 70) rfl ?_); (try (rw [drewN_self wr]; generalize hq_ : World.drewN wr _ = wr; have n0_ := Aside0.mk (Kd.R_at hq_ HO_8.out); have n1_ := Aside0.mk (Kd.R_at hq_ HO_10.out); have n2_ := Aside0.mk (below_at hq_ HB.out); clear hq_ HO_8 HO_10 HB; have HO_8 := n0_; have HO_10 := n1_; have HB := n2_; clear n0_ n1_ n2_; (try (have HX27 := Aside0.mk (show Kd.R k39 39 wr w.heap.size (fun _ => True) (.slice (some ⟨go25, 0, none⟩) x10_2.length co26) x10_2 from (by (with_reducible repeat (first | apply Kd.R_alloc | apply Kd.R_drewN | apply Kd.R_drew)); exact HO_10.out)))); (try (obtain ⟨ce27, hcl27, hM27, hcc27, hfr27⟩ := Kd.R_elem HX27.out z39 ((ji22) : Int) (of_decide_eq_true (by first | (with_reducible assumption) | assumption)) (by have h_ : ((ji22) : Int) < ((x10_2.length : Int) : Int) := of_decide_eq_true (by first | (with_reducible assumption) | assumption); first | exact h_ | (have e_ := (Kd.R_reads' HO_10.out).1; omega) | simpa using h_))); (try (obtain rfl := k39_openM hM27)); (try (have HP27 := Kd.R_seg HX27.out ((ji22) : Int) (of_decide_eq_true (by first | (with_reducible assumption) | assumption)) (by have h_ : ((ji22) : Int) < ((x10_2.length : Int) : Int) := of_decide_eq_true (by first | (with_reducible assumption) | assumption); first | exact h_ | (have e_ := (Kd.R_reads' HO_10.out).1; omega) | simpa using h_) (seg := [.bool (!((rd_T39 x10_2 (ji22)).f2))]) (j := 2) hcl27 hcc27 (show 3 ≤ 3 from by decide) (x' := (⟨(rd_T39 x10_2 (ji22)).f0, (rd_T39 x10_2 (ji22)).f1, !((rd_T39 x10_2 (ji22)).f2)⟩ : S39)) (k39_mkM _ _ _ (⟨(rd_T39 x10_2 (ji22)).f0, (rd_T39 x10_2 (ji22)).f1, !((rd_T39 x10_2 (ji22)).f2)⟩ : S39) ) (fun _ hk => hk))); (try (have hx27_2 := hcc27 2 _ rfl)); (try (try simp only [show (k39).sz = 3 from rfl, Nat.mul_one, Nat.add_zero] at hx27_2)); (try (have hf27_2 := hfr27 2)); (try (try simp only [show (k39).sz = 3 from rfl, Nat.mul_one, Nat.add_zero] at hf27_2)); (try (clear hcl27 hcc27 hfr27 hM27)))); refine store_event (t := 4) (p := 70) (v := ?vo_w28) (w1 := (wr.setCell ⟨go25, ((ji22) : Int).toNat * 3 + 2, none⟩ (.bool (!((rd_T39 x10_2 (ji22)).f2))))) ?hg ?ho ?hn ?hr ?_; (case ho => rfl); (case hg => rfl); (case hn => rfl); (case hr => first | (go_simp; done) | (go_simp; rfl)); intro w28 hw; have hg : wr.grownBy w28 (some go25) := (by rw [hw]; exact HP27.2); have hp_ : Kd.R k39 39 w28 w.heap.size (fun _ => True) (.slice (some ⟨go25, 0, none⟩) x10_2.length co26) y117 := (by rw [hw, Ny117.out]; exact HP27.1); clear HP27; have n0_ := Aside0.mk (Kd.R_over' (v := (.slice (some ⟨go25, 0, none⟩) x10_2.length co26)) (by (with_reducible repeat (first | apply Kd.R_alloc | apply Kd.R_drewN | apply Kd.R_drew)); exact HO_8.out) (Kd.R_typed HO_10.out) (by decide) hg); have n1_ := Aside0.mk (hp_); have n2_ := Aside0.mk ((by rw [hw]; exact below_set (HB.out) GB25.out : Below w.heap.size w w28)); clear HO_8; clear HO_10; clear HB; have HO_8 := n0_; have HO_10 := n1_; have HB := n2_; clear n0_ n1_ n2_; clear hg hw hp_)))
                        go_roundg k2
                        case measure => have := HJ3.out; have := HK2.out; omega
                        case rel => exact ⟨(y117), (wrap64 (x11_2 + 1)), (by first | rfl | (simp; done) | (simp [*]; done)), H', ⟨by have := HJ3.out; have := HK2.out; omega⟩, ⟨by (with_reducible repeat (first | apply Kd.R_alloc | apply Kd.R_drewN | apply Kd.R_drew)); exact HO_8.out⟩, ⟨by (with_reducible repeat (first | apply Kd.R_alloc | apply Kd.R_drewN | apply Kd.R_drew)); exact HO_10.out⟩, ⟨by repeat (first | (with_reducible first | exact HB.out | apply below_alloc | apply pw_below_drewN | apply below_drew1) | exact HB.out)⟩⟩
                      · rw [if_neg c24] at H
                        exact absurd H (by simp)
                    · rw [if_neg c23] at H
                      exact absurd H (by simp)
                · rw [if_neg c20] at H
                  exact absurd H (by simp)
              · rw [if_neg c19] at H
                have c19b0 : decide (x11_2 < (l2.length : Int)) = false := decide_eq_false c19
                clear c19
                have H' := Aside0.mk H
                clear H
                go_wp2
                repeat (go_quiet (fail); try go_wp2)
                go_loopg [13, 14] k2 (fun kq v13 v14 w' => ∃ (x13_3 : Int) (x14_3 : Int), v13 = .int .i64 x13_3 ∧ v14 = .int .i64 x14_3 ∧ Aside0 (drovewaylaw09_FeudsFewer.l1 kq a0 l1 t105 t106 x10_2 x13_3 x14_3 = some r) ∧ Aside0 (kq ≤ k2) ∧ Aside0 (Kd.R (Kd.int .i64) 3 w' w.heap.size (fun _ => True) v107 t105) ∧ Aside0 (Kd.R k39 39 w' w.heap.size (fun _ => True) v113 x10_2) ∧ Aside0 (Below w.heap.size w w'))
                case atStart => exact ⟨(0), (0), (by first | rfl | (simp; done) | (simp [*]; done)), (by first | rfl | (simp; done) | (simp [*]; done)), H', ⟨Nat.le_refl _⟩, ⟨by (with_reducible repeat (first | apply Kd.R_alloc | apply Kd.R_drewN | apply Kd.R_drew)); exact HO_8.out⟩, ⟨by (with_reducible repeat (first | apply Kd.R_alloc | apply Kd.R_drewN | apply Kd.R_drew)); exact HO_10.out⟩, ⟨by repeat (first | (with_reducible first | exact HB.out | apply below_alloc | apply pw_below_drewN | apply below_drew1) | exact HB.out)⟩⟩
                case round =>
                  clear H'
                  try clear c1
                  try clear p1
                  try clear q1
                  try clear hx1
                  try clear c2
                  try clear p2
                  try clear q2
                  try clear hx2
                  try clear c4
                  try clear c6
                  try clear p6
                  try clear c7
                  try clear c7b0
                  try clear c7b1
                  try clear c9
                  try clear c9b0
                  try clear c9b1
                  try clear c10
                  try clear p11
                  try clear q11
                  try clear hx11
                  try clear c14
                  try clear c19
                  try clear c19b0
                  try clear c20
                  try clear c20b0
                  try clear c21
                  try clear c21b0
                  try clear c21b1
                  try clear c21b2
                  try clear c23
                  try clear c23b0
                  try clear c24
                  try clear c24b0
                  try clear c25
                  try clear p25
                  try clear q25
                  try clear hx25
                  try clear hf25
                  try clear c27
                  try clear hx27
                  try clear hf27
                  try clear hx115_0
                  try clear hx116_0
                  try clear hx116_1
                  try clear hx116_2
                  try clear hx25_0
                  try clear hx25_1
                  try clear hx25_2
                  try clear hx27_2
                  try clear p115
                  try clear p116
                  try clear p2
                  try clear p25
                  try clear q115
                  try clear q116
                  try clear q25
                  obtain ⟨x13_3, x14_3, rfl, rfl, HA, HK3, HO_8, HO_10, HB⟩ := hrel
                  cases gk with
                  | zero => exact absurd HA.out (by simp [drovewaylaw09_FeudsFewer.l1])
                  | succ k3 =>
                    have H := HA.out
                    clear HA
                    simp only [drovewaylaw09_FeudsFewer.l1] at H
                    by_cases c29 : x14_3 < (l1.length : Int)
                    · rw [if_pos c29] at H
                      have c29b0 : decide (x14_3 < (l1.length : Int)) = true := decide_eq_true c29
                      clear c29
                      by_cases c30 : 0 ≤ x14_3
                      · rw [if_pos c30] at H
                        have c30b0 : decide (0 ≤ x14_3) = true := decide_eq_true c30
                        clear c30
                        by_cases c31 : x14_3 < (x10_2.length : Int)
                        · rw [if_pos c31] at H
                          have c31b0 : decide (x14_3 < (x10_2.length : Int)) = true := decide_eq_true c31
                          clear c31
                          by_cases c32 : (!(((rd_T39 x10_2 x14_3).f0) == ((rd_T39 l1 x14_3).f0)) || (!(((rd_T39 x10_2 x14_3).f1) == ((rd_T39 l1 x14_3).f1)) || (!(((rd_T39 x10_2 x14_3).f2) == ((rd_T39 l1 x14_3).f2))))) = true
                          · rw [if_pos c32] at H
                            have c32b0 : (!(((rd_T39 x10_2 x14_3).f0) == ((rd_T39 l1 x14_3).f0)) || (!(((rd_T39 x10_2 x14_3).f1) == ((rd_T39 l1 x14_3).f1)) || (!(((rd_T39 x10_2 x14_3).f2) == ((rd_T39 l1 x14_3).f2))))) = true := c32
                            clear c32
                            have H' := Aside0.mk H
                            clear H
                            obtain ⟨Ao33, co33, eo33⟩ := Kd.R_slice HO_10.out
                            subst eo33
                            have p118 : 0 ≤ (x14_3 : Int) := of_decide_eq_true (by first | (with_reducible assumption) | assumption)
                            have q118 : x14_3 < (x10_2.length : Int) := of_decide_eq_true (by first | (with_reducible assumption) | assumption)
                            obtain ⟨ad118, e118, hx118_0, hx118_1, hx118_2⟩ := at_T39 (Kd.R_reads' HO_10.out).2.2 x14_3 p118 q118
                            cases e118
                            replace p118 := eq_true p118
                            replace q118 := eq_true q118
                            have p119 : 0 ≤ (x14_3 : Int) := of_decide_eq_true (by first | (with_reducible assumption) | assumption)
                            have q119 : x14_3 < (l1.length : Int) := of_decide_eq_true (by first | (with_reducible assumption) | assumption)
                            obtain ⟨ad119, e119, hx119_0, hx119_1, hx119_2⟩ := at_T39 HR1.out x14_3 p119 q119
                            cases e119
                            replace hx119_0 := (HB.out.cell (World.block_lt_of_cell? w _ hx119_0)).trans hx119_0
                            replace hx119_1 := (HB.out.cell (World.block_lt_of_cell? w _ hx119_1)).trans hx119_1
                            replace hx119_2 := (HB.out.cell (World.block_lt_of_cell? w _ hx119_2)).trans hx119_2
                            replace p119 := eq_true p119
                            replace q119 := eq_true q119
                            go_wp2
                            repeat (go_quiet (fail); try go_wp2)
                            go_roundg k3
                            case measure => have := HJ3.out; have := HK2.out; have := HK3.out; omega
                            case rel => exact ⟨(wrap64 (x13_3 + 1)), (wrap64 (x14_3 + 1)), (by first | rfl | (simp; done) | (simp [*]; done)), (by first | rfl | (simp; done) | (simp [*]; done)), H', ⟨by have := HJ3.out; have := HK2.out; have := HK3.out; omega⟩, ⟨by (with_reducible repeat (first | apply Kd.R_alloc | apply Kd.R_drewN | apply Kd.R_drew)); exact HO_8.out⟩, ⟨by (with_reducible repeat (first | apply Kd.R_alloc | apply Kd.R_drewN | apply Kd.R_drew)); exact HO_10.out⟩, ⟨by repeat (first | (with_reducible first | exact HB.out | apply below_alloc | apply pw_below_drewN | apply below_drew1) | exact HB.out)⟩⟩
                          · rw [if_neg c32] at H
                            have c32b0 : (!(((rd_T39 x10_2 x14_3).f0) == ((rd_T39 l1 x14_3).f0)) || (!(((rd_T39 x10_2 x14_3).f1) == ((rd_T39 l1 x14_3).f1)) || (!(((rd_T39 x10_2 x14_3).f2) == ((rd_T39 l1 x14_3).f2))))) = false := by simpa using c32
                            clear c32
                            have H' := Aside0.mk H
                            clear H
                            obtain ⟨Ao34, co34, eo34⟩ := Kd.R_slice HO_10.out
                            subst eo34
                            have p118 : 0 ≤ (x14_3 : Int) := of_decide_eq_true (by first | (with_reducible assumption) | assumption)
                            have q118 : x14_3 < (x10_2.length : Int) := of_decide_eq_true (by first | (with_reducible assumption) | assumption)
                            obtain ⟨ad118, e118, hx118_0, hx118_1, hx118_2⟩ := at_T39 (Kd.R_reads' HO_10.out).2.2 x14_3 p118 q118
                            cases e118
                            replace p118 := eq_true p118
                            replace q118 := eq_true q118
                            have p119 : 0 ≤ (x14_3 : Int) := of_decide_eq_true (by first | (with_reducible assumption) | assumption)
                            have q119 : x14_3 < (l1.length : Int) := of_decide_eq_true (by first | (with_reducible assumption) | assumption)
                            obtain ⟨ad119, e119, hx119_0, hx119_1, hx119_2⟩ := at_T39 HR1.out x14_3 p119 q119
                            cases e119
                            replace hx119_0 := (HB.out.cell (World.block_lt_of_cell? w _ hx119_0)).trans hx119_0
                            replace hx119_1 := (HB.out.cell (World.block_lt_of_cell? w _ hx119_1)).trans hx119_1
                            replace hx119_2 := (HB.out.cell (World.block_lt_of_cell? w _ hx119_2)).trans hx119_2
                            replace p119 := eq_true p119
                            replace q119 := eq_true q119
                            go_wp2
                            repeat (go_quiet (fail); try go_wp2)
                            go_roundg k3
                            case measure => have := HJ3.out; have := HK2.out; have := HK3.out; omega
                            case rel => exact ⟨(x13_3), (wrap64 (x14_3 + 1)), (by first | rfl | (simp; done) | (simp [*]; done)), (by first | rfl | (simp; done) | (simp [*]; done)), H', ⟨by have := HJ3.out; have := HK2.out; have := HK3.out; omega⟩, ⟨by (with_reducible repeat (first | apply Kd.R_alloc | apply Kd.R_drewN | apply Kd.R_drew)); exact HO_8.out⟩, ⟨by (with_reducible repeat (first | apply Kd.R_alloc | apply Kd.R_drewN | apply Kd.R_drew)); exact HO_10.out⟩, ⟨by repeat (first | (with_reducible first | exact HB.out | apply below_alloc | apply pw_below_drewN | apply below_drew1) | exact HB.out)⟩⟩
                        · rw [if_neg c31] at H
                          exact absurd H (by simp)
                      · rw [if_neg c30] at H
                        exact absurd H (by simp)
                    · rw [if_neg c29] at H
                      have c29b0 : decide (x14_3 < (l1.length : Int)) = false := decide_eq_false c29
                      clear c29
                      replace H := Option.bind_eq_some_iff.mp H
                      obtain ⟨⟨t120, t121⟩, A350, H⟩ := H
                      replace H : (if t106 = 0 then (if x13_3 ≥ (t105.length : Int) then ((drovewaylaw09_alive.f).bind fun t122 => (some t122)) else (if t121 = 10 then ((drovewaylaw09_alive.f).bind fun t123 => (some t123)) else (some false))) else (some false)) = some r := H
                      have A35 := Aside0.mk A350
                      clear A350
                      by_cases c36 : t106 = 0
                      · rw [if_pos c36] at H
                        have c36b0 : (t106 == 0) = true := beq_iff_eq.mpr c36
                        have c36b1 : (t106 != 0) = false := bne_eq_false_iff_eq.mpr c36
                        clear c36
                        by_cases c37 : x13_3 ≥ (t105.length : Int)
                        · rw [if_pos c37] at H
                          have c37b0 : decide ((t105.length : Int) ≤ x13_3) = true := decide_eq_true c37
                          clear c37
                          replace H := Option.bind_eq_some_iff.mp H
                          obtain ⟨t122, A380, H⟩ := H
                          replace H : (some t122) = some r := H
                          have A38 := Aside0.mk A380
                          clear A380
                          obtain rfl := Option.some.inj H
                          obtain ⟨Ao39, co39, eo39⟩ := Kd.R_slice HO_10.out
                          subst eo39
                          go_wp2_with (first | (go_at_call 18; (with_reducible refine (feuds_Sides.calls a0 _ _ x10_2 t120 t121 _ ?side1 ?side2 A35.out).mono ?_); (case side1 => repeat (first | exact (Kd.R_reads' HO_10.out).2.2 | (with_reducible refine Kd.C_alloc ?_ _) | (with_reducible refine Kd.C_drewN ?_ _) | (with_reducible refine Kd.C_drew ?_))); (case side2 => exact (Kd.R_reads' HO_10.out).2.1); rintro e w40 ⟨rfl, hb⟩; have n0_ := Aside0.mk (Kd.R_below (by (with_reducible repeat (first | apply Kd.R_alloc | apply Kd.R_drewN | apply Kd.R_drew)); exact HO_8.out) hb); have n1_ := Aside0.mk (Kd.R_below (by (with_reducible repeat (first | apply Kd.R_alloc | apply Kd.R_drewN | apply Kd.R_drew)); exact HO_10.out) hb); have n2_ := Aside0.mk (below_step (by repeat (first | (with_reducible first | exact HB.out | apply below_alloc | apply pw_below_drewN | apply below_drew1) | exact HB.out)) hb); clear HO_8; clear HO_10; clear HB; have HO_8 := n0_; have HO_10 := n1_; have HB := n2_; clear n0_ n1_ n2_; (try clear hb); (try clear hb2); (try clear hk); (try clear hi); obtain ⟨Ao41, co41, eo41⟩ := Kd.R_slice HO_8.out; subst eo41) | (go_at_call 17; (with_reducible refine (drovewaylaw09_alive.calls  t122 _ A38.out).mono ?_); rintro e w42 ⟨rfl, hb⟩; have n0_ := Aside0.mk (Kd.R_below (by (with_reducible repeat (first | apply Kd.R_alloc | apply Kd.R_drewN | apply Kd.R_drew)); exact HO_8.out) hb); have n1_ := Aside0.mk (Kd.R_below (by (with_reducible repeat (first | apply Kd.R_alloc | apply Kd.R_drewN | apply Kd.R_drew)); exact HO_10.out) hb); have n2_ := Aside0.mk (below_step (by repeat (first | (with_reducible first | exact HB.out | apply below_alloc | apply pw_below_drewN | apply below_drew1) | exact HB.out)) hb); clear HO_8; clear HO_10; clear HB; have HO_8 := n0_; have HO_10 := n1_; have HB := n2_; clear n0_ n1_ n2_; (try clear hb); (try clear hb2); (try clear hk); (try clear hi)))
                          repeat (go_quiet (first | (go_at_call 18; (with_reducible refine (feuds_Sides.calls a0 _ _ x10_2 t120 t121 _ ?side1 ?side2 A35.out).mono ?_); (case side1 => repeat (first | exact (Kd.R_reads' HO_10.out).2.2 | (with_reducible refine Kd.C_alloc ?_ _) | (with_reducible refine Kd.C_drewN ?_ _) | (with_reducible refine Kd.C_drew ?_))); (case side2 => exact (Kd.R_reads' HO_10.out).2.1); rintro e w40 ⟨rfl, hb⟩; have n0_ := Aside0.mk (Kd.R_below (by (with_reducible repeat (first | apply Kd.R_alloc | apply Kd.R_drewN | apply Kd.R_drew)); exact HO_8.out) hb); have n1_ := Aside0.mk (Kd.R_below (by (with_reducible repeat (first | apply Kd.R_alloc | apply Kd.R_drewN | apply Kd.R_drew)); exact HO_10.out) hb); have n2_ := Aside0.mk (below_step (by repeat (first | (with_reducible first | exact HB.out | apply below_alloc | apply pw_below_drewN | apply below_drew1) | exact HB.out)) hb); clear HO_8; clear HO_10; clear HB; have HO_8 := n0_; have HO_10 := n1_; have HB := n2_; clear n0_ n1_ n2_; (try clear hb); (try clear hb2); (try clear hk); (try clear hi); obtain ⟨Ao41, co41, eo41⟩ := Kd.R_slice HO_8.out; subst eo41) | (go_at_call 17; (with_reducible refine (drovewaylaw09_alive.calls  t122 _ A38.out).mono ?_); rintro e w42 ⟨rfl, hb⟩; have n0_ := Aside0.mk (Kd.R_below (by (with_reducible repeat (first | apply Kd.R_alloc | apply Kd.R_drewN | apply Kd.R_drew)); exact HO_8.out) hb); have n1_ := Aside0.mk (Kd.R_below (by (with_reducible repeat (first | apply Kd.R_alloc | apply Kd.R_drewN | apply Kd.R_drew)); exact HO_10.out) hb); have n2_ := Aside0.mk (below_step (by repeat (first | (with_reducible first | exact HB.out | apply below_alloc | apply pw_below_drewN | apply below_drew1) | exact HB.out)) hb); clear HO_8; clear HO_10; clear HB; have HO_8 := n0_; have HO_10 := n1_; have HB := n2_; clear n0_ n1_ n2_; (try clear hb); (try clear hb2); (try clear hk); (try clear hi))); try go_wp2_with (first | (go_at_call 18; (with_reducible refine (feuds_Sides.calls a0 _ _ x10_2 t120 t121 _ ?side1 ?side2 A35.out).mono ?_); (case side1 => repeat (first | exact (Kd.R_reads' HO_10.out).2.2 | (with_reducible refine Kd.C_alloc ?_ _) | (with_reducible refine Kd.C_drewN ?_ _) | (with_reducible refine Kd.C_drew ?_))); (case side2 => exact (Kd.R_reads' HO_10.out).2.1); rintro e w40 ⟨rfl, hb⟩; have n0_ := Aside0.mk (Kd.R_below (by (with_reducible repeat (first | apply Kd.R_alloc | apply Kd.R_drewN | apply Kd.R_drew)); exact HO_8.out) hb); have n1_ := Aside0.mk (Kd.R_below (by (with_reducible repeat (first | apply Kd.R_alloc | apply Kd.R_drewN | apply Kd.R_drew)); exact HO_10.out) hb); have n2_ := Aside0.mk (below_step (by repeat (first | (with_reducible first | exact HB.out | apply below_alloc | apply pw_below_drewN | apply below_drew1) | exact HB.out)) hb); clear HO_8; clear HO_10; clear HB; have HO_8 := n0_; have HO_10 := n1_; have HB := n2_; clear n0_ n1_ n2_; (try clear hb); (try clear hb2); (try clear hk); (try clear hi); obtain ⟨Ao41, co41, eo41⟩ := Kd.R_slice HO_8.out; subst eo41) | (go_at_call 17; (with_reducible refine (drovewaylaw09_alive.calls  t122 _ A38.out).mono ?_); rintro e w42 ⟨rfl, hb⟩; have n0_ := Aside0.mk (Kd.R_below (by (with_reducible repeat (first | apply Kd.R_alloc | apply Kd.R_drewN | apply Kd.R_drew)); exact HO_8.out) hb); have n1_ := Aside0.mk (Kd.R_below (by (with_reducible repeat (first | apply Kd.R_alloc | apply Kd.R_drewN | apply Kd.R_drew)); exact HO_10.out) hb); have n2_ := Aside0.mk (below_step (by repeat (first | (with_reducible first | exact HB.out | apply below_alloc | apply pw_below_drewN | apply below_drew1) | exact HB.out)) hb); clear HO_8; clear HO_10; clear HB; have HO_8 := n0_; have HO_10 := n1_; have HB := n2_; clear n0_ n1_ n2_; (try clear hb); (try clear hb2); (try clear hk); (try clear hi))))
                          go_ret
                          exact ⟨by first | rfl | (simp [errW_none, errW_some] <;> rfl) | (simp [*, errW_none, errW_some] <;> rfl), by repeat (first | (with_reducible first | exact HB.out | apply below_alloc | apply pw_below_drewN | apply below_drew1) | exact HB.out)⟩
                        · rw [if_neg c37] at H
                          have c37b0 : decide ((t105.length : Int) ≤ x13_3) = false := decide_eq_false c37
                          clear c37
                          by_cases c43 : t121 = 10
                          · rw [if_pos c43] at H
                            have c43b0 : (t121 == 10) = true := beq_iff_eq.mpr c43
                            have c43b1 : (t121 != 10) = false := bne_eq_false_iff_eq.mpr c43
                            clear c43
                            replace H := Option.bind_eq_some_iff.mp H
                            obtain ⟨t123, A440, H⟩ := H
                            replace H : (some t123) = some r := H
                            have A44 := Aside0.mk A440
                            clear A440
                            obtain rfl := Option.some.inj H
                            obtain ⟨Ao45, co45, eo45⟩ := Kd.R_slice HO_10.out
                            subst eo45
                            go_wp2_with (first | (go_at_call 18; (with_reducible refine (feuds_Sides.calls a0 _ _ x10_2 t120 t121 _ ?side1 ?side2 A35.out).mono ?_); (case side1 => repeat (first | exact (Kd.R_reads' HO_10.out).2.2 | (with_reducible refine Kd.C_alloc ?_ _) | (with_reducible refine Kd.C_drewN ?_ _) | (with_reducible refine Kd.C_drew ?_))); (case side2 => exact (Kd.R_reads' HO_10.out).2.1); rintro e w46 ⟨rfl, hb⟩; have n0_ := Aside0.mk (Kd.R_below (by (with_reducible repeat (first | apply Kd.R_alloc | apply Kd.R_drewN | apply Kd.R_drew)); exact HO_8.out) hb); have n1_ := Aside0.mk (Kd.R_below (by (with_reducible repeat (first | apply Kd.R_alloc | apply Kd.R_drewN | apply Kd.R_drew)); exact HO_10.out) hb); have n2_ := Aside0.mk (below_step (by repeat (first | (with_reducible first | exact HB.out | apply below_alloc | apply pw_below_drewN | apply below_drew1) | exact HB.out)) hb); clear HO_8; clear HO_10; clear HB; have HO_8 := n0_; have HO_10 := n1_; have HB := n2_; clear n0_ n1_ n2_; (try clear hb); (try clear hb2); (try clear hk); (try clear hi); obtain ⟨Ao47, co47, eo47⟩ := Kd.R_slice HO_8.out; subst eo47) | (go_at_call 17; (with_reducible refine (drovewaylaw09_alive.calls  t123 _ A44.out).mono ?_); rintro e w48 ⟨rfl, hb⟩; have n0_ := Aside0.mk (Kd.R_below (by (with_reducible repeat (first | apply Kd.R_alloc | apply Kd.R_drewN | apply Kd.R_drew)); exact HO_8.out) hb); have n1_ := Aside0.mk (Kd.R_below (by (with_reducible repeat (first | apply Kd.R_alloc | apply Kd.R_drewN | apply Kd.R_drew)); exact HO_10.out) hb); have n2_ := Aside0.mk (below_step (by repeat (first | (with_reducible first | exact HB.out | apply below_alloc | apply pw_below_drewN | apply below_drew1) | exact HB.out)) hb); clear HO_8; clear HO_10; clear HB; have HO_8 := n0_; have HO_10 := n1_; have HB := n2_; clear n0_ n1_ n2_; (try clear hb); (try clear hb2); (try clear hk); (try clear hi)))
                            repeat (go_quiet (first | (go_at_call 18; (with_reducible refine (feuds_Sides.calls a0 _ _ x10_2 t120 t121 _ ?side1 ?side2 A35.out).mono ?_); (case side1 => repeat (first | exact (Kd.R_reads' HO_10.out).2.2 | (with_reducible refine Kd.C_alloc ?_ _) | (with_reducible refine Kd.C_drewN ?_ _) | (with_reducible refine Kd.C_drew ?_))); (case side2 => exact (Kd.R_reads' HO_10.out).2.1); rintro e w46 ⟨rfl, hb⟩; have n0_ := Aside0.mk (Kd.R_below (by (with_reducible repeat (first | apply Kd.R_alloc | apply Kd.R_drewN | apply Kd.R_drew)); exact HO_8.out) hb); have n1_ := Aside0.mk (Kd.R_below (by (with_reducible repeat (first | apply Kd.R_alloc | apply Kd.R_drewN | apply Kd.R_drew)); exact HO_10.out) hb); have n2_ := Aside0.mk (below_step (by repeat (first | (with_reducible first | exact HB.out | apply below_alloc | apply pw_below_drewN | apply below_drew1) | exact HB.out)) hb); clear HO_8; clear HO_10; clear HB; have HO_8 := n0_; have HO_10 := n1_; have HB := n2_; clear n0_ n1_ n2_; (try clear hb); (try clear hb2); (try clear hk); (try clear hi); obtain ⟨Ao47, co47, eo47⟩ := Kd.R_slice HO_8.out; subst eo47) | (go_at_call 17; (with_reducible refine (drovewaylaw09_alive.calls  t123 _ A44.out).mono ?_); rintro e w48 ⟨rfl, hb⟩; have n0_ := Aside0.mk (Kd.R_below (by (with_reducible repeat (first | apply Kd.R_alloc | apply Kd.R_drewN | apply Kd.R_drew)); exact HO_8.out) hb); have n1_ := Aside0.mk (Kd.R_below (by (with_reducible repeat (first | apply Kd.R_alloc | apply Kd.R_drewN | apply Kd.R_drew)); exact HO_10.out) hb); have n2_ := Aside0.mk (below_step (by repeat (first | (with_reducible first | exact HB.out | apply below_alloc | apply pw_below_drewN | apply below_drew1) | exact HB.out)) hb); clear HO_8; clear HO_10; clear HB; have HO_8 := n0_; have HO_10 := n1_; have HB := n2_; clear n0_ n1_ n2_; (try clear hb); (try clear hb2); (try clear hk); (try clear hi))); try go_wp2_with (first | (go_at_call 18; (with_reducible refine (feuds_Sides.calls a0 _ _ x10_2 t120 t121 _ ?side1 ?side2 A35.out).mono ?_); (case side1 => repeat (first | exact (Kd.R_reads' HO_10.out).2.2 | (with_reducible refine Kd.C_alloc ?_ _) | (with_reducible refine Kd.C_drewN ?_ _) | (with_reducible refine Kd.C_drew ?_))); (case side2 => exact (Kd.R_reads' HO_10.out).2.1); rintro e w46 ⟨rfl, hb⟩; have n0_ := Aside0.mk (Kd.R_below (by (with_reducible repeat (first | apply Kd.R_alloc | apply Kd.R_drewN | apply Kd.R_drew)); exact HO_8.out) hb); have n1_ := Aside0.mk (Kd.R_below (by (with_reducible repeat (first | apply Kd.R_alloc | apply Kd.R_drewN | apply Kd.R_drew)); exact HO_10.out) hb); have n2_ := Aside0.mk (below_step (by repeat (first | (with_reducible first | exact HB.out | apply below_alloc | apply pw_below_drewN | apply below_drew1) | exact HB.out)) hb); clear HO_8; clear HO_10; clear HB; have HO_8 := n0_; have HO_10 := n1_; have HB := n2_; clear n0_ n1_ n2_; (try clear hb); (try clear hb2); (try clear hk); (try clear hi); obtain ⟨Ao47, co47, eo47⟩ := Kd.R_slice HO_8.out; subst eo47) | (go_at_call 17; (with_reducible refine (drovewaylaw09_alive.calls  t123 _ A44.out).mono ?_); rintro e w48 ⟨rfl, hb⟩; have n0_ := Aside0.mk (Kd.R_below (by (with_reducible repeat (first | apply Kd.R_alloc | apply Kd.R_drewN | apply Kd.R_drew)); exact HO_8.out) hb); have n1_ := Aside0.mk (Kd.R_below (by (with_reducible repeat (first | apply Kd.R_alloc | apply Kd.R_drewN | apply Kd.R_drew)); exact HO_10.out) hb); have n2_ := Aside0.mk (below_step (by repeat (first | (with_reducible first | exact HB.out | apply below_alloc | apply pw_below_drewN | apply below_drew1) | exact HB.out)) hb); clear HO_8; clear HO_10; clear HB; have HO_8 := n0_; have HO_10 := n1_; have HB := n2_; clear n0_ n1_ n2_; (try clear hb); (try clear hb2); (try clear hk); (try clear hi))))
                            go_ret
                            exact ⟨by first | rfl | (simp [errW_none, errW_some] <;> rfl) | (simp [*, errW_none, errW_some] <;> rfl), by repeat (first | (with_reducible first | exact HB.out | apply below_alloc | apply pw_below_drewN | apply below_drew1) | exact HB.out)⟩
                          · rw [if_neg c43] at H
                            have c43b0 : (t121 == 10) = false := beq_eq_false_iff_ne.mpr c43
                            have c43b1 : (t121 != 10) = true := bne_iff_ne.mpr c43
                            obtain rfl := Option.some.inj H
                            obtain ⟨Ao49, co49, eo49⟩ := Kd.R_slice HO_10.out
                            subst eo49
                            go_wp2_with (first | (go_at_call 18; (with_reducible refine (feuds_Sides.calls a0 _ _ x10_2 t120 t121 _ ?side1 ?side2 A35.out).mono ?_); (case side1 => repeat (first | exact (Kd.R_reads' HO_10.out).2.2 | (with_reducible refine Kd.C_alloc ?_ _) | (with_reducible refine Kd.C_drewN ?_ _) | (with_reducible refine Kd.C_drew ?_))); (case side2 => exact (Kd.R_reads' HO_10.out).2.1); rintro e w50 ⟨rfl, hb⟩; have n0_ := Aside0.mk (Kd.R_below (by (with_reducible repeat (first | apply Kd.R_alloc | apply Kd.R_drewN | apply Kd.R_drew)); exact HO_8.out) hb); have n1_ := Aside0.mk (Kd.R_below (by (with_reducible repeat (first | apply Kd.R_alloc | apply Kd.R_drewN | apply Kd.R_drew)); exact HO_10.out) hb); have n2_ := Aside0.mk (below_step (by repeat (first | (with_reducible first | exact HB.out | apply below_alloc | apply pw_below_drewN | apply below_drew1) | exact HB.out)) hb); clear HO_8; clear HO_10; clear HB; have HO_8 := n0_; have HO_10 := n1_; have HB := n2_; clear n0_ n1_ n2_; (try clear hb); (try clear hb2); (try clear hk); (try clear hi); obtain ⟨Ao51, co51, eo51⟩ := Kd.R_slice HO_8.out; subst eo51))
                            repeat (go_quiet (first | (go_at_call 18; (with_reducible refine (feuds_Sides.calls a0 _ _ x10_2 t120 t121 _ ?side1 ?side2 A35.out).mono ?_); (case side1 => repeat (first | exact (Kd.R_reads' HO_10.out).2.2 | (with_reducible refine Kd.C_alloc ?_ _) | (with_reducible refine Kd.C_drewN ?_ _) | (with_reducible refine Kd.C_drew ?_))); (case side2 => exact (Kd.R_reads' HO_10.out).2.1); rintro e w50 ⟨rfl, hb⟩; have n0_ := Aside0.mk (Kd.R_below (by (with_reducible repeat (first | apply Kd.R_alloc | apply Kd.R_drewN | apply Kd.R_drew)); exact HO_8.out) hb); have n1_ := Aside0.mk (Kd.R_below (by (with_reducible repeat (first | apply Kd.R_alloc | apply Kd.R_drewN | apply Kd.R_drew)); exact HO_10.out) hb); have n2_ := Aside0.mk (below_step (by repeat (first | (with_reducible first | exact HB.out | apply below_alloc | apply pw_below_drewN | apply below_drew1) | exact HB.out)) hb); clear HO_8; clear HO_10; clear HB; have HO_8 := n0_; have HO_10 := n1_; have HB := n2_; clear n0_ n1_ n2_; (try clear hb); (try clear hb2); (try clear hk); (try clear hi); obtain ⟨Ao51, co51, eo51⟩ := Kd.R_slice HO_8.out; subst eo51)); try go_wp2_with (first | (go_at_call 18; (with_reducible refine (feuds_Sides.calls a0 _ _ x10_2 t120 t121 _ ?side1 ?side2 A35.out).mono ?_); (case side1 => repeat (first | exact (Kd.R_reads' HO_10.out).2.2 | (with_reducible refine Kd.C_alloc ?_ _) | (with_reducible refine Kd.C_drewN ?_ _) | (with_reducible refine Kd.C_drew ?_))); (case side2 => exact (Kd.R_reads' HO_10.out).2.1); rintro e w50 ⟨rfl, hb⟩; have n0_ := Aside0.mk (Kd.R_below (by (with_reducible repeat (first | apply Kd.R_alloc | apply Kd.R_drewN | apply Kd.R_drew)); exact HO_8.out) hb); have n1_ := Aside0.mk (Kd.R_below (by (with_reducible repeat (first | apply Kd.R_alloc | apply Kd.R_drewN | apply Kd.R_drew)); exact HO_10.out) hb); have n2_ := Aside0.mk (below_step (by repeat (first | (with_reducible first | exact HB.out | apply below_alloc | apply pw_below_drewN | apply below_drew1) | exact HB.out)) hb); clear HO_8; clear HO_10; clear HB; have HO_8 := n0_; have HO_10 := n1_; have HB := n2_; clear n0_ n1_ n2_; (try clear hb); (try clear hb2); (try clear hk); (try clear hi); obtain ⟨Ao51, co51, eo51⟩ := Kd.R_slice HO_8.out; subst eo51)))
                            go_ret
                            exact ⟨by first | rfl | (simp [errW_none, errW_some] <;> rfl) | (simp [*, errW_none, errW_some] <;> rfl), by repeat (first | (with_reducible first | exact HB.out | apply below_alloc | apply pw_below_drewN | apply below_drew1) | exact HB.out)⟩
                      · rw [if_neg c36] at H
                        have c36b0 : (t106 == 0) = false := beq_eq_false_iff_ne.mpr c36
                        have c36b1 : (t106 != 0) = true := bne_iff_ne.mpr c36
                        obtain rfl := Option.some.inj H
                        obtain ⟨Ao52, co52, eo52⟩ := Kd.R_slice HO_10.out
                        subst eo52
                        go_wp2_with (first | (go_at_call 18; (with_reducible refine (feuds_Sides.calls a0 _ _ x10_2 t120 t121 _ ?side1 ?side2 A35.out).mono ?_); (case side1 => repeat (first | exact (Kd.R_reads' HO_10.out).2.2 | (with_reducible refine Kd.C_alloc ?_ _) | (with_reducible refine Kd.C_drewN ?_ _) | (with_reducible refine Kd.C_drew ?_))); (case side2 => exact (Kd.R_reads' HO_10.out).2.1); rintro e w53 ⟨rfl, hb⟩; have n0_ := Aside0.mk (Kd.R_below (by (with_reducible repeat (first | apply Kd.R_alloc | apply Kd.R_drewN | apply Kd.R_drew)); exact HO_8.out) hb); have n1_ := Aside0.mk (Kd.R_below (by (with_reducible repeat (first | apply Kd.R_alloc | apply Kd.R_drewN | apply Kd.R_drew)); exact HO_10.out) hb); have n2_ := Aside0.mk (below_step (by repeat (first | (with_reducible first | exact HB.out | apply below_alloc | apply pw_below_drewN | apply below_drew1) | exact HB.out)) hb); clear HO_8; clear HO_10; clear HB; have HO_8 := n0_; have HO_10 := n1_; have HB := n2_; clear n0_ n1_ n2_; (try clear hb); (try clear hb2); (try clear hk); (try clear hi)))
                        repeat (go_quiet (first | (go_at_call 18; (with_reducible refine (feuds_Sides.calls a0 _ _ x10_2 t120 t121 _ ?side1 ?side2 A35.out).mono ?_); (case side1 => repeat (first | exact (Kd.R_reads' HO_10.out).2.2 | (with_reducible refine Kd.C_alloc ?_ _) | (with_reducible refine Kd.C_drewN ?_ _) | (with_reducible refine Kd.C_drew ?_))); (case side2 => exact (Kd.R_reads' HO_10.out).2.1); rintro e w53 ⟨rfl, hb⟩; have n0_ := Aside0.mk (Kd.R_below (by (with_reducible repeat (first | apply Kd.R_alloc | apply Kd.R_drewN | apply Kd.R_drew)); exact HO_8.out) hb); have n1_ := Aside0.mk (Kd.R_below (by (with_reducible repeat (first | apply Kd.R_alloc | apply Kd.R_drewN | apply Kd.R_drew)); exact HO_10.out) hb); have n2_ := Aside0.mk (below_step (by repeat (first | (with_reducible first | exact HB.out | apply below_alloc | apply pw_below_drewN | apply below_drew1) | exact HB.out)) hb); clear HO_8; clear HO_10; clear HB; have HO_8 := n0_; have HO_10 := n1_; have HB := n2_; clear n0_ n1_ n2_; (try clear hb); (try clear hb2); (try clear hk); (try clear hi))); try go_wp2_with (first | (go_at_call 18; (with_reducible refine (feuds_Sides.calls a0 _ _ x10_2 t120 t121 _ ?side1 ?side2 A35.out).mono ?_); (case side1 => repeat (first | exact (Kd.R_reads' HO_10.out).2.2 | (with_reducible refine Kd.C_alloc ?_ _) | (with_reducible refine Kd.C_drewN ?_ _) | (with_reducible refine Kd.C_drew ?_))); (case side2 => exact (Kd.R_reads' HO_10.out).2.1); rintro e w53 ⟨rfl, hb⟩; have n0_ := Aside0.mk (Kd.R_below (by (with_reducible repeat (first | apply Kd.R_alloc | apply Kd.R_drewN | apply Kd.R_drew)); exact HO_8.out) hb); have n1_ := Aside0.mk (Kd.R_below (by (with_reducible repeat (first | apply Kd.R_alloc | apply Kd.R_drewN | apply Kd.R_drew)); exact HO_10.out) hb); have n2_ := Aside0.mk (below_step (by repeat (first | (with_reducible first | exact HB.out | apply below_alloc | apply pw_below_drewN | apply below_drew1) | exact HB.out)) hb); clear HO_8; clear HO_10; clear HB; have HO_8 := n0_; have HO_10 := n1_; have HB := n2_; clear n0_ n1_ n2_; (try clear hb); (try clear hb2); (try clear hk); (try clear hi))))
                        go_ret
                        exact ⟨by first | rfl | (simp [errW_none, errW_some] <;> rfl) | (simp [*, errW_none, errW_some] <;> rfl), by repeat (first | (with_reducible first | exact HB.out | apply below_alloc | apply pw_below_drewN | apply below_drew1) | exact HB.out)⟩
        · rw [if_neg c14] at H
          exact absurd H (by simp)

end Go.Proofs.Ytaegldcifhgnmaa.PFeudsFewer

-- Printed by hprint.py (this claim's own program, over the kit's print.py) out of the translation and contracts by hand. Not trusted: Lean checks it.
namespace Go.Proofs.Ytaegldcifhgnmaa.PFeudsFewer
open Go.Proofs.Ytaegldcifhgnmaa.A Go.Proofs.Ytaegldcifhgnmaa.B
open Go.RowKit Go.Proofs.YtaegldcifhgnmaaW.PrintWords Go.Proofs.YtaegldcifhgnmaaW.PrintLast Go.Proofs.YtaegldcifhgnmaaW.PrintMore
attribute [local go_sem] max2_int min2_int max_two min_two max_three min_three max_four min_four   -- for this text's walks alone
set_option linter.unusedVariables false
set_option linter.unusedSimpArgs false

end Go.Proofs.Ytaegldcifhgnmaa.PFeudsFewer

/- FeudsFewer, plain: with fewer changes than Least has ties Sides does not succeed. -/
namespace Go.Proofs.Ytaegldcifhgnmaa.Pure
open Go.Proofs.Ytaegldcifhgnmaa.A Go.Proofs.Ytaegldcifhgnmaa.B Go.Proofs.Ytaegldcifhgnmaa.PFeudsFewer
open Go.RowKit Go.Proofs.YtaegldcifhgnmaaW.PrintWords Go.Proofs.YtaegldcifhgnmaaW.PrintMore

theorem alive_ev : Ev (fun _ => (drovewaylaw09_alive.f).bind fun t => (some t : Option Bool)) true := Ev.now _
variable {n : Int} {l : List S39} {ch : List Int}
theorem j0_true : Ev (fun k => drovewaylaw09_FeudsFewer.j0 k n l ch true) true := by
  refine Ev.step (f := fun _ => some true) (fun k => ?_) (Ev.now _)
  rw [drovewaylaw09_FeudsFewer.j0]; rfl

theorem fewer_l1 (hl : l.length ≤ 60) {x : List S39} (hx : x.map pairT = l.map pairT) (p : List Int) (hfin : (p.length : Nat) ≤ difK l x l.length ∨ (sidesF n x).2 = 10) : ∀ m j, l.length - j = m → j ≤ l.length → Ev (fun k => drovewaylaw09_FeudsFewer.l1 k n l p 0 x (difK l x j : Nat) (j : Nat)) true := by
  have hlen : x.length = l.length := by have := congrArg List.length hx; simpa using this
  have hdl : ∀ j, difK l x j ≤ j := fun j => by unfold difK; have := List.length_filter_le (fun i => difB (x.getD i z39) (l.getD i z39)) (List.range j); rwa [List.length_range] at this
  intro m
  induction m with
  | zero =>
    intro j hm hj
    obtain rfl : j = l.length := by omega
    refine Ev.step (f := fun _ => some true) (fun k => ?_) (Ev.now _)
    rw [drovewaylaw09_FeudsFewer.l1, if_neg (by omega)]
    unfold feuds_Sides.f
    simp only [Option.bind_some, if_true]
    by_cases hq : (p.length : Nat) ≤ difK l x l.length
    · rw [if_pos (by omega)]; rfl
    · rw [if_neg (by omega), if_pos (hfin.resolve_left hq)]; rfl
  | succ m ih =>
    intro j hm hj
    have hd := hdl j
    refine Ev.step (fun k => ?_) (ih (j + 1) (by omega) (by omega))
    rw [drovewaylaw09_FeudsFewer.l1, if_pos (by omega), if_pos (by omega), if_pos (by omega), rdT, rdT, wrapS (show j < l.length by omega) (by omega), difK_succ]
    show (if difB (x.getD j z39) (l.getD j z39) = true then _ else _) = _
    by_cases hb : difB (x.getD j z39) (l.getD j z39) = true
    · rw [if_pos hb, if_pos hb, wrapS (show difK l x j < 100 by omega) (by omega)]
    · rw [if_neg hb, if_neg hb]

theorem set_pairs {x : List S39} (hx : x.map pairT = l.map pairT) {i : Nat} (t : S39) (ht : pairT t = pairT (x.getD i z39)) : (x.set i t).map pairT = l.map pairT := by
  rw [← hx, List.map_set, ht]
  by_cases hi : i < x.length
  · rw [← getD_map hi, List.getD_eq_getElem?_getD, List.getElem?_eq_getElem (by simpa using hi)]
    have hi' : i < (x.map pairT).length := by simpa using hi
    show (x.map pairT).set i ((x.map pairT)[i]) = _
    exact List.set_getElem_self hi'
  · rw [List.set_eq_of_length_le (by simpa using hi)]

theorem fewer_l0 (hl : l.length ≤ 60) (h0 : 0 < l.length) (hc : ch.length ≤ 20) (hu : ∀ x ∈ ch, 0 ≤ x ∧ x ≤ 255) (p : List Int) (hfin : ∀ x : List S39, x.map pairT = l.map pairT → (p.length : Nat) ≤ difK l x l.length ∨ (sidesF n x).2 = 10) : ∀ m i, ch.length - i = m → i ≤ ch.length → ∀ x : List S39, x.map pairT = l.map pairT → Ev (fun k => drovewaylaw09_FeudsFewer.l0 k n l ch p 0 x (i : Nat)) true := by
  intro m
  induction m with
  | zero =>
    intro i hm hi x hx
    have := fewer_l1 (n := n) hl hx p (hfin x hx) l.length 0 (by omega) (Nat.zero_le _)
    refine Ev.step (fun k => ?_) this
    rw [drovewaylaw09_FeudsFewer.l0, if_neg (by omega)]
    rfl
  | succ m ih =>
    intro i hm hi x hx
    have hlen : x.length = l.length := by have := congrArg List.length hx; simpa using this
    have hb := hu (rd ch (i : Int)) (by unfold rd; rw [Int.toNat_natCast]; exact getD_mem 0 (by omega))
    obtain ⟨y, hy⟩ : ∃ y, rd ch (i : Int) = y := ⟨_, rfl⟩
    rw [hy] at hb
    have hw : wrap64 y = y := by rw [wrap64_id] <;> omega
    have hm0 : 0 ≤ Int.tmod y (l.length : Int) := Int.tmod_nonneg _ hb.1
    have hm1 : Int.tmod y (l.length : Int) < (l.length : Int) := Int.tmod_lt_of_pos _ (by omega)
    refine Ev.step (fun k => ?_) (ih (i + 1) (by omega) (by omega) (x.set (Int.tmod y (l.length : Int)).toNat ⟨(rd_T39 x (Int.tmod y (l.length : Int))).f0, (rd_T39 x (Int.tmod y (l.length : Int))).f1, !((rd_T39 x (Int.tmod y (l.length : Int))).f2)⟩) (set_pairs hx _ rfl))
    rw [drovewaylaw09_FeudsFewer.l0, if_pos (by omega), if_pos (by omega), if_neg (by omega), hy, hw, if_pos hm0, if_pos (by omega), wrapS (show i < ch.length by omega) (by omega)]

theorem FeudsFewer (a0 : Int) (l1 : List S39) (l2 : List Int) (hu : ∀ x ∈ l2, 0 ≤ x ∧ x ≤ 255) : ∃ k, drovewaylaw09_FeudsFewer.f k a0 l1 l2 = some true := by
  refine Ev.rounds ?_
  unfold drovewaylaw09_FeudsFewer.f
  rw [few_eq]
  simp only [Option.bind_some]
  by_cases h60 : l1.length ≤ 60
  · rw [show decide (l1.length ≤ 60 ∧ ([] : List Int).length ≤ 60) = true from decide_eq_true ⟨h60, by decide⟩]
    simp only [if_true]
    by_cases hc : (l2.length : Int) > 20
    · refine Ev.congr (fun k => by rw [if_pos hc]) j0_true
    · have hT := Ties_ev (n := a0) (l := l1) (by omega)
      refine Ev.congr (fun k => by rw [if_neg hc]) (Ev.bind (f := fun k t102 => if t102 = 0 then (drovewaylaw09_FeudsFewer.j0 k a0 l1 l2 ((l1.length : Int) == 0)) else (drovewaylaw09_FeudsFewer.j0 k a0 l1 l2 true)) hT ?_)
      by_cases ht : tiesE a0 l1 = 0
      · by_cases hz : l1.length = 0
        · refine Ev.congr (fun k => by rw [if_pos ht, show ((l1.length : Int) == 0) = true by rw [beq_iff_eq]; omega]) j0_true
        · have hmain := fewer_l0 (n := a0) (ch := l2) h60 (by omega) (by omega) hu (leastK l1 (2 ^ a0.toNat)).2 (fun x hx => fewer_main ht hx) l2.length 0 (by omega) (Nat.zero_le _) l1 rfl
          refine Ev.congr (fun k => by rw [if_pos ht, show ((l1.length : Int) == 0) = false by rw [beq_eq_false_iff_ne]; omega]) ?_
          refine Ev.step (fun k => ?_) hmain
          rw [drovewaylaw09_FeudsFewer.j0, if_neg (by decide)]
          unfold feuds_Least.f
          rw [if_pos ht]
          simp only [Option.bind_some, List.nil_append]
          rw [if_pos (by simp; omega)]
          rfl
      · refine Ev.congr (fun k => by rw [if_neg ht]) j0_true
  · rw [show decide (l1.length ≤ 60 ∧ ([] : List Int).length ≤ 60) = false from decide_eq_false (fun h => h60 h.1)]
    exact Ev.congr (fun k => by rw [if_neg (by decide)]) j0_true
end Go.Proofs.Ytaegldcifhgnmaa.Pure

/- FeudsFewer, as it is called. -/
namespace Go.Proofs.Ytaegldcifhgnmaa.B
open Go.Proofs.Ytaegldcifhgnmaa.A
open Go.RowKit Go.Proofs.YtaegldcifhgnmaaW.PrintWords Go.Proofs.YtaegldcifhgnmaaW.PrintMore
theorem fewer_any (a0 : Int) (A1 : Option Addr) (c1 : Nat) (l1 : List S39) (A2 : Option Addr) (c2 : Nat) (l2 : List Int) (w : World) (hr1 : Kd.C k39 w A1 l1.length l1) (hc1 : l1.length ≤ c1) (hr2 : Kd.C (Kd.int .u8) w A2 l2.length l2) (hc2 : l2.length ≤ c2) (hu : ∀ x ∈ l2, 0 ≤ x ∧ x ≤ 255) :
    Calls Try.prog 4 #[.int .i64 a0, .slice A1 l1.length c1, .slice A2 l2.length c2] w fun e w' => e = .returned (.bool true) ∧ Below w.heap.size w w' := by
  obtain ⟨k, h⟩ := Pure.FeudsFewer a0 l1 l2 hu
  exact PFeudsFewer.drovewaylaw09_FeudsFewer.calls k a0 A1 c1 l1 A2 c2 l2 true w hr1 hc1 hr2 hc2 h
end Go.Proofs.Ytaegldcifhgnmaa.B

/- An argument that is a slice of ties, opened to a row of cells. -/
namespace Go.Proofs.Ytaegldcifhgnmaa.A
open Go.ChangeShapes Go.WideShapes Go.Deep
open Go.RowKit Go.Proofs.YtaegldcifhgnmaaW.PrintWords

theorem list_of {α : Type} {P : Nat → α → Prop} : ∀ n, (∀ i, i < n → ∃ x, P i x) → ∃ l : List α, l.length = n ∧ ∀ (i : Nat) (x : α), l[i]? = some x → P i x := by
  intro n
  induction n with
  | zero => exact fun _ => ⟨[], rfl, fun i x h => by simp at h⟩
  | succ n ih =>
    intro h
    obtain ⟨l, hl, hp⟩ := ih (fun i hi => h i (by omega))
    obtain ⟨x, hx⟩ := h n (by omega)
    refine ⟨l ++ [x], by simp [hl], fun i y hy => ?_⟩
    by_cases hi : i < l.length
    · rw [List.getElem?_append_left hi] at hy
      exact hp i y hy
    · have e : i = n := by
        have := (List.getElem?_eq_some_iff.1 hy).1
        rw [List.length_append, List.length_singleton] at this
        omega
      subst e
      have : x = y := by simpa [← hl] using hy
      subst this
      exact hx

set_option maxRecDepth 100000 in
theorem open_ties {H : Type} {enc : TypeId × Value → H} {W : World} {a : Option Addr} {len cap : Nat} {d : DataW H} {p : List MemPlace} (h : DataW.Trod enc Try.prog W 0 (fun _ => true) true 22 (.slice a len cap) d p) :
    ∃ ps : List S39, ps.length = len ∧ len ≤ cap ∧ cap ≤ maxLen ∧ Kd.C k39 W a len ps := by
  obtain ⟨fuel, hf⟩ := h
  rcases open_slice Try.underlying22 hf with ⟨hcs, _⟩ | ⟨x, l, c, m, n, D, Pl, hcs, _, hl, hm, hmm, _, hi⟩
  · simp [Value.cells] at hcs
    obtain ⟨rfl, rfl, rfl⟩ := hcs
    exact ⟨[], rfl, Nat.le_refl _, Nat.zero_le _, rfl, by omega, fun h => absurd h (by omega)⟩
  · simp [Value.cells] at hcs
    obtain ⟨rfl, rfl, rfl⟩ := hcs
    have hC : Try.prog.cellsOf 39 = 3 := by kernel_rfl
    have he : ∀ i, i < len → ∃ q : S39, W.cell? (x.add (i * 3)) = some (.int .i64 q.f0) ∧ W.cell? (x.add (i * 3 + 1)) = some (.int .i64 q.f1) ∧ W.cell? (x.add (i * 3 + 2)) = some (.bool q.f2) := by
      intro i hil
      obtain ⟨cs', hc, ht'⟩ := hi i (by rw [hmm, if_pos rfl]; omega)
      rw [hC] at hc
      obtain ⟨ys, n', _, _, hlen, hyl, hfd⟩ := DataW.trod_struct Try.underlying39 ht'
      obtain ⟨_, hcl, hat⟩ := World.cells?_some hc
      have h0 := hfd 0 _ rfl
      have h1 := hfd 1 _ rfl
      have h2 := hfd 2 _ rfl
      match cs', hcl, ys, hyl with
      | [c0, c1, c2], _, [y0, y1, y2], _ =>
        have e0 : Try.prog.cellsOf 3 = 1 := by kernel_rfl
        have e4 : Try.prog.cellsOf 4 = 1 := by kernel_rfl
        simp [e0, e4] at h0 h1 h2
        obtain ⟨n0, hn0, _, _⟩ := DataW.trod_int Try.underlying3 h0
        obtain ⟨n1, hn1, _, _⟩ := DataW.trod_int Try.underlying3 h1
        obtain ⟨n2, hn2, _⟩ := DataW.trod_bool Try.underlying4 h2
        simp at hn0 hn1 hn2
        subst hn0 hn1 hn2
        refine ⟨⟨n0, n1, n2⟩, ?_, ?_, ?_⟩
        · have := hat 0 (by omega)
          rw [Go.Deep.add_add] at this
          exact this
        · have := hat 1 (by omega)
          rw [Go.Deep.add_add] at this
          exact this
        · have := hat 2 (by omega)
          rw [Go.Deep.add_add] at this
          exact this
    obtain ⟨ps, hps, hall⟩ := list_of len he
    refine ⟨ps, hps, hl, hm, hps, by unfold maxLen at hm; omega, fun _ => ⟨x, rfl, fun j q hj => ⟨[.int .i64 q.f0, .int .i64 q.f1, .bool q.f2], rfl, k39_mk W q, fun i u hu => ?_⟩⟩⟩
    obtain ⟨g0, g1, g2⟩ := hall j q hj
    match i, hu with
    | 0, hu => cases hu; exact g0
    | 1, hu => cases hu; exact g1
    | 2, hu => cases hu; exact g2
end Go.Proofs.Ytaegldcifhgnmaa.A

/- FeudsFewer holds: its code returns true and leaves what it was given as it was. Conditions: those of the given statement, none besides. -/
namespace Go.Proofs.Ytaegldcifhgnmaa.feudsFewer
open Go.ChangeShapes Go.WideShapes Go.ChangeAt Go.RowKit
open Go.ChangeMaps (open_string shut_string)
open Go.Proofs.YtaegldcifhgnmaaW.PrintWords
open Go.Proofs.Ytaegldcifhgnmaa.A Go.Proofs.Ytaegldcifhgnmaa.B
set_option linter.unusedVariables false
theorem own : ownKnob Try.prog.godebug = none := by kernel_rfl
theorem laidOut : laidOutB Try.prog = true := by kernel_rfl
def IsRow (k : IntKind) (w : World) (a : Option Addr) (len cap : Nat) (zs : List Int) : Prop :=
  (a = none ∧ len = 0 ∧ cap = 0 ∧ zs = []) ∨
  ∃ x, a = some x ∧ len ≤ cap ∧ cap ≤ maxLen ∧ zs.length = cap ∧ (∀ i, i < zs.length → w.cell? (x.add i) = some (.int k (zs.getD i 0))) ∧ ∀ n ∈ zs, (Lit.int k n).wf = true
set_option maxRecDepth 100000 in
theorem lifted (os : Os) (started : os.Started) (H : Type) (enc : TypeId × Value → H) :
    ReturnsInHanded {} Try.checked os 4 .any (Rows.feudsFewerSpec.pre6 enc Try.prog Try.f4 Rows.feudsFewerRow.domain false) (Rows.feudsFewerSpec.post enc Try.prog Try.f4 false true false false) := by
  refine returnsInHanded_of_change_sized (C := Try.checked) own started (by kernel_rfl) Try.func4
    (ChangeSpec.witness6 (enc := enc) (C := Try.checked) false ⟨#[], #[.int .i64 0, .slice none 0 0, .slice none 0 0], []⟩ 8 (by kernel_rfl) (by kernel_rfl) (by kernel_rfl) (by kernel_rfl)) ?_
  intro W base args ds gs before hval0 hW hcnd hsz0 _
  have hsz : (DataW.weightsEach Try.prog (Try.f4.params.toList ++ Rows.feudsFewerSpec.plain.varTypes Try.prog) (ds ++ gs)).all (· ≤ reachBytes) = true := hsz0
  have hval : ∀ (j : Nat) t v, Try.f4.params[j]? = some t → args[j]? = some v → Value.okWide Try.prog W .any base t v := hval0
  have hW' := hW
  obtain ⟨p, q, hA0, hV, rfl, hfz, hnd⟩ := hW
  have hA : DataW.TrodAll enc Try.prog W 0 (fun _ => true) true Try.f4.params.toList args.toList ds p := hA0
  rw [Try.params4] at hA hval hsz
  obtain ⟨v0, vs0, d0, ds0, p0, q0, hargs, rfl, rfl, h0, r0⟩ := trodAll_cons hA
  obtain ⟨v1, vs1, d1, ds1, p1, q1, rfl, rfl, rfl, h1, r1⟩ := trodAll_cons r0
  obtain ⟨v2, vs2, d2, ds2, p2, q2, rfl, rfl, rfl, h2, r2⟩ := trodAll_cons r1
  obtain ⟨rfl, rfl, rfl⟩ := trodAll_nil r2
  obtain rfl : args = #[v0, v1, v2] := by cases args; simp_all
  obtain ⟨rfl, rfl⟩ := trodVars_none hV
  obtain ⟨a0, rfl, rfl, rfl, w0⟩ := open_int Try.underlying3 (hval 0 3 v0 rfl rfl) h0
  obtain ⟨a1, len1, cap1, rfl⟩ := okWide_slice Try.underlying22 (hval 1 22 v1 rfl rfl)
  have k1 := h1
  have lt1 : ∀ x ∈ p1, x.block < W.heap.size := by obtain ⟨m, hm⟩ := k1; exact DataW.trod_lt m _ _ _ hm
  obtain ⟨l1, rfl, hc1, hm1, hr1⟩ := open_ties h1
  obtain ⟨a2, len2, cap2, rfl⟩ := okWide_slice Try.underlying34 (hval 2 34 v2 rfl rfl)
  have k2 := h2
  have lt2 : ∀ x ∈ p2, x.block < W.heap.size := by obtain ⟨m, hm⟩ := k2; exact DataW.trod_lt m _ _ _ hm
  obtain ⟨z2, w2⟩ : ∃ zs, IsRow .u8 W a2 len2 cap2 zs := by
    obtain ⟨fuel, hf⟩ := h2
    rcases open_ints Try.underlying34 Try.underlying5 (by kernel_rfl) hf with ⟨hcs, _⟩ | ⟨x, l, c, zs, hcs, _, hl, hm, hz, _, hcell, hwz⟩
    · simp [Value.cells] at hcs
      obtain ⟨rfl, rfl, rfl⟩ := hcs
      exact ⟨[], .inl ⟨rfl, rfl, rfl, rfl⟩⟩
    · simp [Value.cells] at hcs
      obtain ⟨rfl, rfl, rfl⟩ := hcs
      exact ⟨zs, .inr ⟨_, rfl, hl, hm, by simpa using hz, hcell, hwz⟩⟩
  have y2 : len2 * 1 ≤ 140737488351232 := Go.Proofs.YtaegldcifhgnmaaW.PrintWords.sized_ints hsz (j := 2) (t := 34) rfl rfl Try.underlying34 Try.underlying5 (by kernel_rfl) (by kernel_rfl) h2
  obtain ⟨l2, rfl, hr2, hm2, hw2, hc2⟩ := ReadsInt.ofRowC w2
  clear hA0 hval0 hsz0 hsz
  refine (fewer_any a0 a1 cap1 l1 a2 cap2 l2 W hr1 hc1 (Kd.C_of_reads (d := (0 : Int)) (h1 := fun _ => rfl) hr2) hc2 (fun x hx => by have := hw2 x hx; simp [Lit.wf] at this; have e1 : IntKind.u8.min = 0 := rfl; have e2 : IntKind.u8.max = 255 := rfl; omega)).mono fun e W' ⟨he, bel⟩ => ?_
  subst he
  exact ⟨_, rfl, _, _, _, [], _, [], hW', trodAll_mk1 (shut_bool Try.underlying4 _), (trodAll_cons_mk (shut_int Try.underlying3 w0) (trodAll_cons_mk (Below.trod laidOut (by kernel_rfl) (of_decide_eq_true (by kernel_rfl)) k1 bel lt1) (trodAll_cons_mk (Below.trod laidOut (by kernel_rfl) (of_decide_eq_true (by kernel_rfl)) k2 bel lt2) trodAll_mk0))), rfl, bel.frame _, fun h => by cases h⟩
theorem over : Rows.feudsFewerRow.holds Try.pinned (OpenSpec.ofChange Rows.feudsFewerSpec) :=
  OpenClaim.holds_of_wide 4 Try.f4 rfl rfl rfl rfl rfl rfl rfl ⟨rfl, rfl, rfl, rfl, rfl⟩ rfl rfl rfl rfl rfl (by kernel_rfl) Try.func4 (by kernel_rfl)
    (of_decide_eq_true (by kernel_rfl)) (by unfold Func.isWrapper; first | (rw [if_pos (by decide +kernel)]; kernel_rfl) | (rw [if_neg (by decide +kernel)]; exact ⟨rfl, rfl⟩))
    (fun os started H enc _ => lifted os started H enc)
theorem proved : Rows.FeudsFewerSaid := over
#print axioms proved
end Go.Proofs.Ytaegldcifhgnmaa.feudsFewer
namespace Go.Proofs.Ytaegldcifhgnmaa
/-- The row, under a short name, for the claim. -/
theorem feudsFewer_holds : Rows.FeudsFewerSaid := feudsFewer.proved
end Go.Proofs.Ytaegldcifhgnmaa
