/- What the law package's own small functions and the reference's Ties compute (plain). -/
import Derived.Test.YtaegldcifhgnmaaZCl1
import Derived.Test.YtaegldcifhgnmaaProg
import Derived.Below
import Derived.Deep.Draws
import Derived.Deep.AppendLies
import Derived.Maps.AppendAt
import Derived.OwnWalk
import Derived.Laws.BytesArg
import Derived.Laws.MakeOwn
import Derived.Laws.OwnMore
import Derived.Deep.OwnRows
import Derived.Tactics
import Derived.Lib.ConvBytes
import Derived.Laws.Slices
import Derived.WalkKit
import Derived.KernelRfl
import Derived.RowKit3
import Derived.Deep.LoopGhost
import Derived.Deep.QuietTactic
import Derived.BigQuiet
import Derived.WideLaws
import Derived.Deep.DeepCutAuto
import Derived.Deep.CutBlock
import Derived.Deep.RegionHeld3
import Derived.Laws.Rows
import Derived.Lib.AppendStr
import Derived.ArgAppend
import Derived.Laws.IdiomCopy
import Derived.OrdersHeld
import Derived.Laws.BitsLemmas
import Derived.RowKit
import Derived.Test.YtaegldcifhgnmaaWWords
import Derived.Test.YtaegldcifhgnmaaWLast
import Derived.Test.YtaegldcifhgnmaaWTab
import Derived.Test.YtaegldcifhgnmaaWFour
import Derived.Test.YtaegldcifhgnmaaWQPut
import Derived.Test.YtaegldcifhgnmaaWApart
import Derived.Test.YtaegldcifhgnmaaWArr
import Derived.Test.YtaegldcifhgnmaaWZeros
import Derived.Test.YtaegldcifhgnmaaWFoot
import Derived.Test.YtaegldcifhgnmaaWKept
import Derived.Test.YtaegldcifhgnmaaWShare
import Derived.Test.YtaegldcifhgnmaaWN
import Derived.Test.YtaegldcifhgnmaaWFootNe
import Derived.Test.YtaegldcifhgnmaaWAt
import Derived.Test.YtaegldcifhgnmaaWEqStruct
import Derived.Test.YtaegldcifhgnmaaWRepsOne
import Derived.Test.YtaegldcifhgnmaaWInv
import Derived.Test.YtaegldcifhgnmaaWInvWords
import Derived.Test.YtaegldcifhgnmaaWGuard
import Derived.Test.YtaegldcifhgnmaaWNEv
import Derived.Test.YtaegldcifhgnmaaWMore
/- What the law package's own small functions and the reference's Ties compute (plain). -/
namespace Go.Proofs.Ytaegldcifhgnmaa.B
open Go.Proofs.Ytaegldcifhgnmaa.A
open Go.RowKit Go.Proofs.YtaegldcifhgnmaaW.PrintWords Go.Proofs.YtaegldcifhgnmaaW.PrintMore

theorem few_eq (l : List S39) (r : List Int) : drovewaylaw09_few.f l r = some (decide (l.length ≤ 60 ∧ r.length ≤ 60)) := by
  unfold drovewaylaw09_few.f
  by_cases h1 : (l.length : Int) ≤ 60
  · rw [if_pos h1]
    congr 1
    rw [decide_eq_decide]
    omega
  · rw [if_neg h1]
    congr 1
    symm
    rw [decide_eq_false_iff_not]
    omega
theorem wrapS {i n : Nat} (h : i < n) (hn : n ≤ 140737488351232) : wrap64 ((i : Int) + 1) = ((i + 1 : Nat) : Int) := by rw [wrap64_id] <;> omega

/-! ### same -/
theorem same_l0 (l : List Int) (hl : l.length ≤ 140737488351232) : ∀ n i, l.length - i = n → i ≤ l.length → Ev (fun k => drovewaylaw09_same.l0 k l l (i : Int)) true := by
  intro n
  induction n with
  | zero =>
    intro i hn hi
    refine Ev.step (f := fun _ => some true) (fun k => ?_) (Ev.now _)
    rw [drovewaylaw09_same.l0, if_neg (by omega)]
  | succ n ih =>
    intro i hn hi
    refine Ev.step (fun k => ?_) (ih (i + 1) (by omega) (by omega))
    rw [drovewaylaw09_same.l0, if_pos (by omega), if_pos (by omega), if_pos (by omega), if_pos rfl, wrapS (show i < l.length by omega) hl]
theorem same_ev {l l' : List Int} (hl : l.length ≤ 140737488351232) (h : l = l') : Ev (fun k => drovewaylaw09_same.f k l l') true := by
  subst h
  refine Ev.congr (fun k => ?_) (same_l0 l hl _ 0 rfl (Nat.zero_le _))
  unfold drovewaylaw09_same.f
  rw [if_pos rfl]
  rfl

/-! ### Ties -/
theorem rdT (l : List S39) (i : Nat) : rd_T39 l (i : Int) = l.getD i z39 := by simp [rd_T39]

section
variable {n : Int} {l : List S39}
theorem ties_l1_ok (hl : l.length ≤ 1000) {i : Nat} (hi : i < l.length) {r : Int} (h : Ev (fun k => drovewayref09_Ties.l0 k n l ((i + 1 : Nat) : Int)) r) (hp : ∀ j, j < i → pairT (l.getD j z39) ≠ pairT (l.getD i z39)) : ∀ m j, i - j = m → j ≤ i → Ev (fun k => drovewayref09_Ties.l1 k n l (i : Int) (j : Int)) r := by
  intro m
  induction m with
  | zero =>
    intro j hm hj
    refine Ev.step (fun k => ?_) h
    rw [drovewayref09_Ties.l1, if_neg (by omega), wrapS hi (by omega)]
  | succ m ih =>
    intro j hm hj
    refine Ev.step (fun k => ?_) (ih (j + 1) (by omega) (by omega))
    have hne := hp j (by omega)
    rw [drovewayref09_Ties.l1, if_pos (by omega), if_pos (by omega), if_pos (by omega), if_pos (by omega), if_pos (by omega), rdT, rdT, wrapS (show j < l.length by omega) (by omega)]
    by_cases h0 : (l.getD j z39).f0 = (l.getD i z39).f0
    · rw [if_pos h0, if_neg (fun h1 => hne (by unfold pairT; rw [h0, h1]))]
    · rw [if_neg h0]
theorem ties_l1_bad (hl : l.length ≤ 1000) {i q : Nat} (hi : i < l.length) (hq : q < i) (he : pairT (l.getD q z39) = pairT (l.getD i z39)) : ∀ m j, q - j = m → j ≤ q → Ev (fun k => drovewayref09_Ties.l1 k n l (i : Int) (j : Int)) 2 := by
  intro m
  induction m with
  | zero =>
    intro j hm hj
    obtain rfl : j = q := by omega
    unfold pairT at he
    rw [Prod.mk.injEq] at he
    refine Ev.step (f := fun _ => some 2) (fun k => ?_) (Ev.now _)
    rw [drovewayref09_Ties.l1, if_pos (by omega), if_pos (by omega), if_pos (by omega), if_pos (by omega), if_pos (by omega), rdT, rdT, if_pos he.1, if_pos he.2]
  | succ m ih =>
    intro j hm hj
    have h2 := ih (j + 1) (by omega) (by omega)
    by_cases h : pairT (l.getD j z39) = pairT (l.getD i z39)
    · unfold pairT at h
      rw [Prod.mk.injEq] at h
      refine Ev.step (f := fun _ => some 2) (fun k => ?_) (Ev.now _)
      rw [drovewayref09_Ties.l1, if_pos (by omega), if_pos (by omega), if_pos (by omega), if_pos (by omega), if_pos (by omega), rdT, rdT, if_pos h.1, if_pos h.2]
    · refine Ev.step (fun k => ?_) h2
      rw [drovewayref09_Ties.l1, if_pos (by omega), if_pos (by omega), if_pos (by omega), if_pos (by omega), if_pos (by omega), rdT, rdT, wrapS (show j < l.length by omega) (by omega)]
      by_cases h0 : (l.getD j z39).f0 = (l.getD i z39).f0
      · rw [if_pos h0, if_neg (fun h1 => h (by unfold pairT; rw [h0, h1]))]
      · rw [if_neg h0]
theorem ties_l0_in {i : Nat} (hi : i < l.length) (k : Nat) : drovewayref09_Ties.l0 (k + 1) n l (i : Int) = drovewayref09_Ties.j2 k n l (i : Int) (!okT n (l.getD i z39)) := by
  rw [drovewayref09_Ties.l0, if_pos (by omega), if_pos (by omega), rdT]
  unfold okT
  by_cases h0 : (l.getD i z39).f0 < 0
  · rw [if_pos h0]
    congr 1
    rw [decide_eq_false (by omega)]; rfl
  · rw [if_neg h0]
    by_cases h1 : (l.getD i z39).f0 ≥ (l.getD i z39).f1
    · rw [if_pos h1]
      congr 1
      rw [decide_eq_false (p := (l.getD i z39).f0 < (l.getD i z39).f1) (by omega), Bool.and_false]; rfl
    · rw [if_neg h1]
      congr 1
      rw [decide_eq_true (p := 0 ≤ (l.getD i z39).f0) (by omega), decide_eq_true (p := (l.getD i z39).f0 < (l.getD i z39).f1) (by omega), Bool.true_and, Bool.true_and, ← decide_not, decide_eq_decide]
      omega
theorem ties_step (hl : l.length ≤ 1000) {i : Nat} (hi : i < l.length) (hok : okAt n l i = true) {r : Int} (h : Ev (fun k => drovewayref09_Ties.l0 k n l ((i + 1 : Nat) : Int)) r) : Ev (fun k => drovewayref09_Ties.l0 k n l (i : Int)) r := by
  refine Ev.step (f := fun k => drovewayref09_Ties.j2 k n l (i : Int) (!okT n (l.getD i z39))) (fun k => ties_l0_in hi k) ?_
  unfold okAt at hok
  rw [Bool.and_eq_true] at hok
  rw [hok.1]
  have hp : ∀ j, j < i → pairT (l.getD j z39) ≠ pairT (l.getD i z39) := by
    intro j hj e
    have h2 := hok.2
    rw [Bool.not_eq_true', List.contains_eq_mem, decide_eq_false_iff_not] at h2
    apply h2
    rw [← e]
    refine List.mem_map.2 ⟨l.getD j z39, ?_, rfl⟩
    rw [List.mem_iff_getElem]
    exact ⟨j, by rw [List.length_take]; omega, by rw [List.getElem_take, List.getD_eq_getElem?_getD, List.getElem?_eq_getElem (by omega)]; rfl⟩
  refine Ev.step (fun k => ?_) (ties_l1_ok hl hi h hp i 0 (by omega) (Nat.zero_le _))
  rw [drovewayref09_Ties.j2]
  rfl
theorem ties_stop (hl : l.length ≤ 1000) {i : Nat} (hi : i < l.length) (hok : okAt n l i = false) : Ev (fun k => drovewayref09_Ties.l0 k n l (i : Int)) 2 := by
  refine Ev.step (f := fun k => drovewayref09_Ties.j2 k n l (i : Int) (!okT n (l.getD i z39))) (fun k => ties_l0_in hi k) ?_
  unfold okAt at hok
  cases ho : okT n (l.getD i z39) with
  | false =>
    exact Ev.step (f := fun _ => some 2) (fun k => by rw [drovewayref09_Ties.j2]; rfl) (Ev.now _)
  | true =>
    rw [ho, Bool.true_and, Bool.not_eq_false', List.contains_eq_mem, decide_eq_true_iff] at hok
    obtain ⟨t, ht, e⟩ := List.mem_map.1 hok
    obtain ⟨q, hq, rfl⟩ := List.mem_iff_getElem.1 ht
    rw [List.length_take] at hq
    rw [List.getElem_take] at e
    have e2 : pairT (l.getD q z39) = pairT (l.getD i z39) := by rw [← e, List.getD_eq_getElem?_getD, List.getElem?_eq_getElem (by omega)]; rfl
    refine Ev.step (fun k => ?_) (ties_l1_bad (n := n) hl hi (show q < i by omega) e2 q 0 (by omega) (Nat.zero_le _))
    rw [drovewayref09_Ties.j2]
    rfl
theorem ties_l0 (hl : l.length ≤ 1000) : ∀ m i, l.length - i = m → i ≤ l.length → (∀ j, j < i → okAt n l j = true) → Ev (fun k => drovewayref09_Ties.l0 k n l (i : Int)) (if okTies n l = true then 0 else 2) := by
  intro m
  induction m with
  | zero =>
    intro i hm hi hall
    refine Ev.step (f := fun _ => some 0) (fun k => ?_) ?_
    · rw [drovewayref09_Ties.l0, if_neg (by omega)]
    · rw [if_pos (okTies_yes fun j hj => hall j (by omega))]
      exact Ev.now _
  | succ m ih =>
    intro i hm hi hall
    cases hok : okAt n l i with
    | true =>
      refine ties_step hl (by omega) hok (ih (i + 1) (by omega) (by omega) fun j hj => ?_)
      by_cases e : j = i
      · rw [e]; exact hok
      · exact hall j (by omega)
    | false =>
      have := okTies_no (show i < l.length by omega) hok
      rw [this]
      exact ties_stop hl (by omega) hok
theorem Ties_ev (hl : l.length ≤ 1000) : Ev (fun k => drovewayref09_Ties.f k n l) (tiesE n l) := by
  have h0 := ties_l0 (n := n) hl l.length 0 (by omega) (Nat.zero_le _) (fun j hj => absurd hj (Nat.not_lt_zero _))
  unfold tiesE
  by_cases h1 : n < 1 ∨ 8 < n
  · rw [if_pos h1]
    refine Ev.congr (g := fun k => drovewayref09_Ties.f k n l) (f := fun k => drovewayref09_Ties.j0 k n l true) (fun k => ?_) (Ev.step (f := fun _ => some 2) (fun k => by rw [drovewayref09_Ties.j0]; rfl) (Ev.now _))
    unfold drovewayref09_Ties.f
    by_cases h2 : n < 1
    · rw [if_pos h2]
    · rw [if_neg h2, decide_eq_true (by omega)]
  · rw [if_neg h1]
    refine Ev.congr (g := fun k => drovewayref09_Ties.f k n l) (f := fun k => drovewayref09_Ties.j0 k n l false) (fun k => ?_) ?_
    · unfold drovewayref09_Ties.f
      rw [if_neg (by omega), decide_eq_false (by omega)]
    · by_cases h2 : 20 < l.length
      · rw [if_pos h2]
        refine Ev.step (f := fun _ => some 3) (fun k => ?_) (Ev.now _)
        rw [drovewayref09_Ties.j0, if_neg (by decide), if_pos (by omega)]
      · rw [if_neg h2]
        refine Ev.step (fun k => ?_) h0
        rw [drovewayref09_Ties.j0, if_neg (by decide), if_neg (by omega)]
        rfl
end
end Go.Proofs.Ytaegldcifhgnmaa.B

/- Shifts of bits, plain. -/
namespace Go.Proofs.Ytaegldcifhgnmaa.B
open Go.Proofs.Ytaegldcifhgnmaa.A
open Go.RowKit Go.Proofs.YtaegldcifhgnmaaW.PrintWords Go.Proofs.YtaegldcifhgnmaaW.PrintMore

theorem shr_mod (y k : Nat) (hk : k ≤ 60) : Int.tmod (shr .i64 (y : Int) (k : Int)) 2 = if y.testBit k = true then 1 else 0 := by
  rw [shr_nat y k hk, Nat.testBit_eq_decide_div_mod_eq]
  have h : Int.tmod ((y / 2 ^ k : Nat) : Int) 2 = ((y / 2 ^ k % 2 : Nat) : Int) := by
    rw [Int.tmod_eq_emod_of_nonneg (Int.natCast_nonneg _)]; rfl
  rw [h]
  by_cases q : y / 2 ^ k % 2 = 1
  · rw [if_pos (by simpa using q), q]; rfl
  · rw [if_neg (by simpa using q)]
    have : y / 2 ^ k % 2 = 0 := by omega
    rw [this]; rfl
theorem shl_one {m : Nat} (h : m ≤ 60) : shl .i64 1 (m : Int) = ((2 ^ m : Nat) : Int) := by
  unfold shl
  have : min ((m : Int)).toNat IntKind.i64.bits = m := by
    have : IntKind.i64.bits = 64 := rfl
    omega
  rw [this, Int.one_mul, pow_cast]
  exact wrap64_nat _ (Int.natCast_nonneg _) (by exact_mod_cast two_lt (show m < 62 by omega))
end Go.Proofs.Ytaegldcifhgnmaa.B

/- A list of ties is a ring: the program's question and the reference's are one (plain). -/
namespace Go.Proofs.Ytaegldcifhgnmaa.A
open Go.RowKit Go.Proofs.YtaegldcifhgnmaaW.PrintWords Go.Proofs.YtaegldcifhgnmaaW.PrintMore

def goodT (l : List S39) : Prop := ∀ t ∈ l, 0 ≤ t.f0 ∧ t.f0 < t.f1 ∧ t.f1 < 60
theorem tiesE_good {n : Int} {l : List S39} (h : tiesE n l = 0) : goodT l := by
  intro t ht
  obtain ⟨i, hi, e⟩ := List.getElem_of_mem ht
  have h1 := tiesE_parts h
  have h2 := okT_parts (okTies_parts h1.2.2 hi).1
  have hg : l.getD i z39 = t := by rw [List.getD_eq_getElem?_getD, List.getElem?_eq_getElem hi, e]; rfl
  rw [hg] at h2
  omega

/-- The tie of an index. -/
def tieA (l : List S39) (i : Int) : S39 := l.getD i.toNat z39
def inR (l : List S39) (i : Int) : Prop := 0 ≤ i ∧ i < (l.length : Int)
instance (l : List S39) (i : Int) : Decidable (inR l i) := inferInstanceAs (Decidable (_ ∧ _))
theorem tieA_good {l : List S39} (hg : goodT l) {i : Int} (h : inR l i) : 0 ≤ (tieA l i).f0 ∧ (tieA l i).f0 < (tieA l i).f1 ∧ (tieA l i).f1 < 60 := hg _ (getD_mem z39 (by unfold inR at h; omega))
/-- The drover that two ties have in common, as the program looks for it. -/
def comB (l : List S39) (i nx : Int) : Option Nat :=
  if inR l i ∧ inR l nx ∧ i ≠ nx then
    (if hasB (tieA l nx) (tieA l i).f0.toNat = true then some (tieA l i).f0.toNat else if hasB (tieA l nx) (tieA l i).f1.toNat = true then some (tieA l i).f1.toNat else none)
  else none
def nextI (r : List Int) (k : Nat) : Int := r.getD ((k + 1) % r.length) 0
def feA (l : List S39) (r : List Int) (k : Nat) : Nat := feT (tieA l (r.getD k 0))
def ringN (l : List S39) (r : List Int) : Nat → Nat → Nat → Nat → Int × Bool
  | 0, _, fe, _ => ((fe : Int), true)
  | d + 1, k, fe, met => match comB l (r.getD k 0) (nextI r k) with
    | none => (0, false)
    | some c => if met.testBit c = true then (0, false) else ringN l r d (k + 1) (fe + feA l r k) (met ||| 2 ^ c)
/-- The program's answer for a list. -/
def ringP (l : List S39) (r : List Int) : Int × Bool := if r.length < 3 then (0, false) else ringN l r r.length 0 0 0
/-- The other drover of a tie. -/
def otherN (t : S39) (v : Nat) : Option Nat := if t.f0 = (v : Int) then some t.f1.toNat else if t.f1 = (v : Int) then some t.f0.toNat else none
def walkN (l : List S39) (r : List Int) (fr : Nat) : Nat → Nat → Nat → Nat → Nat → Int × Bool
  | 0, _, at_, fe, _ => ((fe : Int), decide (at_ = fr))
  | d + 1, k, at_, fe, met => match otherN (tieA l (r.getD k 0)) at_ with
    | none => (0, false)
    | some v => if met.testBit v = true then (0, false) else walkN l r fr d (k + 1) v (fe + feA l r k) (met ||| 2 ^ v)
def walkF (l : List S39) (r : List Int) (fr : Nat) : Int × Bool := walkN l r fr r.length 0 fr 0 0
/-- The reference's answer for a list. -/
def isRingR (l : List S39) (r : List Int) : Int × Bool :=
  if r.length < 3 then (0, false) else if ∀ k, k < r.length → inR l (r.getD k 0) then
    (if (walkF l r (tieA l (r.getD 0 0)).f0.toNat).2 = true then walkF l r (tieA l (r.getD 0 0)).f0.toNat
     else if (walkF l r (tieA l (r.getD 0 0)).f1.toNat).2 = true then walkF l r (tieA l (r.getD 0 0)).f1.toNat else (0, false))
  else (0, false)
def feSum (l : List S39) (r : List Int) : Nat → Nat → Nat
  | 0, _ => 0
  | d + 1, k => feA l r k + feSum l r d (k + 1)

theorem or_bit {met c v : Nat} : (met ||| 2 ^ c).testBit v = (met.testBit v || decide (v = c)) := by
  rw [Nat.testBit_or, tb_two]
  congr 1
theorem ringN_fst (l : List S39) (r : List Int) : ∀ d k fe met, (ringN l r d k fe met).1 = if (ringN l r d k fe met).2 = true then ((fe + feSum l r d k : Nat) : Int) else 0 := by
  intro d
  induction d with
  | zero => intro k fe met; simp [ringN, feSum]
  | succ d ih =>
    intro k fe met
    rw [ringN, feSum]
    cases comB l (r.getD k 0) (nextI r k) with
    | none => simp
    | some c =>
      dsimp only
      by_cases h : met.testBit c = true
      · simp only [if_pos h]; simp
      · simp only [if_neg h]
        rw [ih, Nat.add_assoc]
theorem walkN_fst (l : List S39) (r : List Int) (fr : Nat) : ∀ d k at_ fe met, (walkN l r fr d k at_ fe met).2 = true → (walkN l r fr d k at_ fe met).1 = ((fe + feSum l r d k : Nat) : Int) := by
  intro d
  induction d with
  | zero => intro k at_ fe met h; simp [walkN, feSum]
  | succ d ih =>
    intro k at_ fe met
    rw [walkN, feSum]
    cases otherN (tieA l (r.getD k 0)) at_ with
    | none => simp
    | some c =>
      dsimp only
      by_cases h : met.testBit c = true
      · rw [if_pos h]; simp
      · rw [if_neg h]
        intro h2
        rw [ih _ _ _ _ h2, Nat.add_assoc]

/-! ### lists of drovers -/
theorem ringN_to (l : List S39) (r : List Int) : ∀ d k fe met, (ringN l r d k fe met).2 = true → ∃ c : Nat → Nat, (∀ j, j < d → comB l (r.getD (k + j) 0) (nextI r (k + j)) = some (c j) ∧ met.testBit (c j) = false) ∧ ∀ i j, i < j → j < d → c i ≠ c j := by
  intro d
  induction d with
  | zero => intro k fe met _; exact ⟨fun _ => 0, fun j hj => absurd hj (Nat.not_lt_zero j), fun i j _ hj => absurd hj (Nat.not_lt_zero j)⟩
  | succ d ih =>
    intro k fe met
    rw [ringN]
    cases e : comB l (r.getD k 0) (nextI r k) with
    | none => intro h; simp at h
    | some v =>
      dsimp only
      by_cases h : met.testBit v = true
      · rw [if_pos h]; intro h; simp at h
      · rw [if_neg h]
        intro h2
        obtain ⟨c, h3, h4⟩ := ih _ _ _ h2
        refine ⟨fun j => match j with | 0 => v | j + 1 => c j, fun j hj => ?_, fun i j hij hj => ?_⟩
        · cases j with
          | zero => exact ⟨e, by simpa using h⟩
          | succ j =>
            have := h3 j (by omega)
            rw [or_bit, Bool.or_eq_false_iff] at this
            rw [show k + (j + 1) = k + 1 + j by omega]
            exact ⟨this.1, this.2.1⟩
        · cases j with
          | zero => omega
          | succ j =>
            cases i with
            | zero =>
              have := (h3 j (by omega)).2
              rw [or_bit, Bool.or_eq_false_iff, decide_eq_false_iff_not] at this
              exact fun e => this.2 e.symm
            | succ i => exact h4 i j (by omega) (by omega)
theorem ringN_of (l : List S39) (r : List Int) : ∀ d k fe met (c : Nat → Nat), (∀ j, j < d → comB l (r.getD (k + j) 0) (nextI r (k + j)) = some (c j) ∧ met.testBit (c j) = false) → (∀ i j, i < j → j < d → c i ≠ c j) → (ringN l r d k fe met).2 = true := by
  intro d
  induction d with
  | zero => intros; rfl
  | succ d ih =>
    intro k fe met c h3 h4
    have h0 := h3 0 (by omega)
    rw [Nat.add_zero] at h0
    rw [ringN, h0.1]
    dsimp only
    rw [if_neg (by rw [h0.2]; exact Bool.false_ne_true)]
    refine ih _ _ _ (fun j => c (j + 1)) (fun j hj => ?_) (fun i j hij hj => h4 (i + 1) (j + 1) (by omega) (by omega))
    have := h3 (j + 1) (by omega)
    rw [show k + 1 + j = k + (j + 1) by omega]
    refine ⟨this.1, ?_⟩
    rw [or_bit, this.2, Bool.false_or, decide_eq_false_iff_not]
    exact fun e => h4 0 (j + 1) (by omega) (by omega) e.symm
theorem walkN_to (l : List S39) (r : List Int) (fr : Nat) : ∀ d k at_ fe met, (walkN l r fr d k at_ fe met).2 = true → ∃ c : Nat → Nat, c 0 = at_ ∧ c d = fr ∧ (∀ j, j < d → otherN (tieA l (r.getD (k + j) 0)) (c j) = some (c (j + 1)) ∧ met.testBit (c (j + 1)) = false) ∧ ∀ i j, i < j → j < d → c (i + 1) ≠ c (j + 1) := by
  intro d
  induction d with
  | zero =>
    intro k at_ fe met h
    rw [walkN] at h
    exact ⟨fun _ => at_, rfl, of_decide_eq_true h, fun j hj => absurd hj (Nat.not_lt_zero j), fun i j _ hj => absurd hj (Nat.not_lt_zero j)⟩
  | succ d ih =>
    intro k at_ fe met
    rw [walkN]
    cases e : otherN (tieA l (r.getD k 0)) at_ with
    | none => intro h; simp at h
    | some v =>
      dsimp only
      by_cases h : met.testBit v = true
      · rw [if_pos h]; intro h; simp at h
      · rw [if_neg h]
        intro h2
        obtain ⟨c, h0, hd, h3, h4⟩ := ih _ _ _ _ h2
        refine ⟨fun j => match j with | 0 => at_ | j + 1 => c j, rfl, hd, fun j hj => ?_, fun i j hij hj => ?_⟩
        · cases j with
          | zero =>
            dsimp only
            rw [h0]
            exact ⟨e, by simpa using h⟩
          | succ j =>
            have := h3 j (by omega)
            rw [or_bit, Bool.or_eq_false_iff] at this
            rw [show k + (j + 1) = k + 1 + j by omega]
            exact ⟨this.1, this.2.1⟩
        · cases j with
          | zero => omega
          | succ j =>
            cases i with
            | zero =>
              have := (h3 j (by omega)).2
              rw [or_bit, Bool.or_eq_false_iff, decide_eq_false_iff_not] at this
              dsimp only
              rw [h0]
              exact fun e => this.2 e.symm
            | succ i => exact h4 i j (by omega) (by omega)
theorem walkN_of (l : List S39) (r : List Int) (fr : Nat) : ∀ d k at_ fe met (c : Nat → Nat), c 0 = at_ → c d = fr → (∀ j, j < d → otherN (tieA l (r.getD (k + j) 0)) (c j) = some (c (j + 1)) ∧ met.testBit (c (j + 1)) = false) → (∀ i j, i < j → j < d → c (i + 1) ≠ c (j + 1)) → (walkN l r fr d k at_ fe met).2 = true := by
  intro d
  induction d with
  | zero =>
    intro k at_ fe met c h0 hd _ _
    rw [walkN]
    exact decide_eq_true (h0.symm.trans hd)
  | succ d ih =>
    intro k at_ fe met c h0 hd h3 h4
    have h1 := h3 0 (by omega)
    rw [Nat.add_zero, h0] at h1
    rw [walkN, h1.1]
    dsimp only
    rw [if_neg (by rw [h1.2]; exact Bool.false_ne_true)]
    refine ih _ _ _ _ (fun j => c (j + 1)) rfl hd (fun j hj => ?_) (fun i j hij hj => h4 (i + 1) (j + 1) (by omega) (by omega))
    have := h3 (j + 1) (by omega)
    rw [show k + 1 + j = k + (j + 1) by omega]
    refine ⟨this.1, ?_⟩
    rw [or_bit, this.2, Bool.false_or, decide_eq_false_iff_not]
    exact fun e => h4 0 (j + 1) (by omega) (by omega) e.symm

/-! ### two ties -/
theorem hasB_iff {t : S39} {v : Nat} : hasB t v = true ↔ t.f0 = (v : Int) ∨ t.f1 = (v : Int) := by
  unfold hasB
  rw [Bool.or_eq_true, beq_iff_eq, beq_iff_eq]
theorem other_has {t : S39} {a b : Nat} (h1 : t.f0 < t.f1) (ha : hasB t a = true) (hb : hasB t b = true) (hne : a ≠ b) : otherN t a = some b := by
  rw [hasB_iff] at ha hb
  unfold otherN
  by_cases h : t.f0 = (a : Int)
  · rw [if_pos h]
    have : t.f1.toNat = b := by omega
    rw [this]
  · rw [if_neg h, if_pos (by omega)]
    have : t.f0.toNat = b := by omega
    rw [this]
theorem other_parts {t : S39} {a b : Nat} (h0 : 0 ≤ t.f0) (h1 : t.f0 < t.f1) (h : otherN t a = some b) : hasB t a = true ∧ hasB t b = true ∧ a ≠ b := by
  rw [hasB_iff, hasB_iff]
  unfold otherN at h
  by_cases e : t.f0 = (a : Int)
  · rw [if_pos e] at h
    have := Option.some.inj h
    omega
  · rw [if_neg e] at h
    by_cases e1 : t.f1 = (a : Int)
    · rw [if_pos e1] at h
      have := Option.some.inj h
      omega
    · rw [if_neg e1] at h; exact absurd h (by simp)
theorem com_parts {l : List S39} (hg : goodT l) {i nx : Int} {c : Nat} (h : comB l i nx = some c) : inR l i ∧ inR l nx ∧ hasB (tieA l i) c = true ∧ hasB (tieA l nx) c = true := by
  unfold comB at h
  by_cases h1 : inR l i ∧ inR l nx ∧ i ≠ nx
  · rw [if_pos h1] at h
    have hi := tieA_good hg h1.1
    refine ⟨h1.1, h1.2.1, ?_⟩
    by_cases h2 : hasB (tieA l nx) (tieA l i).f0.toNat = true
    · rw [if_pos h2] at h
      obtain rfl := Option.some.inj h
      exact ⟨hasB_iff.mpr (Or.inl (by omega)), h2⟩
    · rw [if_neg h2] at h
      by_cases h3 : hasB (tieA l nx) (tieA l i).f1.toNat = true
      · rw [if_pos h3] at h
        obtain rfl := Option.some.inj h
        exact ⟨hasB_iff.mpr (Or.inr (by omega)), h3⟩
      · rw [if_neg h3] at h; exact absurd h (by simp)
  · rw [if_neg h1] at h; exact absurd h (by simp)
theorem com_of {l : List S39} (hg : goodT l) {i nx : Int} (hi : inR l i) (hn : inR l nx) {a b x : Nat} (h : otherN (tieA l i) a = some b) (h' : otherN (tieA l nx) b = some x) (hne : x ≠ a) : comB l i nx = some b := by
  have gi := tieA_good hg hi
  have gn := tieA_good hg hn
  have p := other_parts gi.1 gi.2.1 h
  have q := other_parts gn.1 gn.2.1 h'
  rw [hasB_iff, hasB_iff] at p q
  have hin : i ≠ nx := by
    intro e
    subst e
    omega
  unfold comB
  rw [if_pos ⟨hi, hn, hin⟩]
  by_cases e : (tieA l i).f0.toNat = b
  · rw [e, if_pos (hasB_iff.mpr q.1)]
  · rw [if_neg (by rw [hasB_iff]; omega)]
    have e1 : (tieA l i).f1.toNat = b := by omega
    rw [e1, if_pos (hasB_iff.mpr q.1)]

/-! ### the two are one -/
theorem mod_in {k m : Nat} (h : k + 1 < m) : (k + 1) % m = k + 1 := Nat.mod_eq_of_lt h
theorem ring_of_walk {l : List S39} (hg : goodT l) {r : List Int} (h3 : 3 ≤ r.length) (hin : ∀ k, k < r.length → inR l (r.getD k 0)) {fr : Nat} (h : (walkF l r fr).2 = true) : (ringN l r r.length 0 0 0).2 = true := by
  obtain ⟨c, h0, hd, hs, hd2⟩ := walkN_to l r fr _ _ _ _ _ h
  refine ringN_of l r _ _ _ _ (fun j => c (j + 1)) (fun j hj => ⟨?_, Nat.zero_testBit _⟩) hd2
  rw [Nat.zero_add]
  have a1 := (hs j hj).1
  rw [Nat.zero_add] at a1
  by_cases hl : j + 1 < r.length
  · have a2 := (hs (j + 1) hl).1
    rw [Nat.zero_add] at a2
    unfold nextI
    rw [mod_in hl]
    refine com_of hg (hin j hj) (hin _ hl) a1 a2 ?_
    cases j with
    | zero =>
      rw [h0, ← hd]
      have := hd2 1 (r.length - 1) (by omega) (by omega)
      rwa [Nat.sub_add_cancel (by omega)] at this
    | succ j => exact fun e => hd2 j (j + 2) (by omega) (by omega) e.symm
  · have e : j + 1 = r.length := by omega
    have a2 := (hs 0 (by omega)).1
    rw [Nat.zero_add, h0, ← hd, ← e] at a2
    unfold nextI
    rw [e, Nat.mod_self]
    rw [← e]
    refine com_of hg (hin j hj) (hin 0 (by omega)) a1 a2 ?_
    obtain ⟨q, rfl⟩ : ∃ q, j = q + 1 := ⟨j - 1, by omega⟩
    exact hd2 0 q (by omega) (by omega)
theorem walk_of_ring {l : List S39} (hg : goodT l) {r : List Int} (h3 : 3 ≤ r.length) (h : (ringN l r r.length 0 0 0).2 = true) : (∀ k, k < r.length → inR l (r.getD k 0)) ∧ ∃ fr, (fr = (tieA l (r.getD 0 0)).f0.toNat ∨ fr = (tieA l (r.getD 0 0)).f1.toNat) ∧ (walkF l r fr).2 = true := by
  obtain ⟨c, hs, hd⟩ := ringN_to l r _ _ _ _ h
  have hc : ∀ k, k < r.length → inR l (r.getD k 0) ∧ inR l (nextI r k) ∧ hasB (tieA l (r.getD k 0)) (c k) = true ∧ hasB (tieA l (nextI r k)) (c k) = true := by
    intro k hk
    have := (hs k hk).1
    rw [Nat.zero_add] at this
    exact com_parts hg this
  have hin : ∀ k, k < r.length → inR l (r.getD k 0) := fun k hk => (hc k hk).1
  have e : r.length - 1 + 1 = r.length := Nat.sub_add_cancel (by omega)
  have hlast := hc (r.length - 1) (by omega)
  have hn0 : nextI r (r.length - 1) = r.getD 0 0 := by
    unfold nextI
    rw [e, Nat.mod_self]
  rw [hn0] at hlast
  have h00 := tieA_good hg (hin 0 (by omega))
  refine ⟨hin, c (r.length - 1), ?_, ?_⟩
  · have := hasB_iff.mp hlast.2.2.2
    omega
  · refine walkN_of l r _ _ _ _ _ _ (fun j => match j with | 0 => c (r.length - 1) | j + 1 => c j) rfl ?_ (fun j hj => ⟨?_, Nat.zero_testBit _⟩) hd
    · obtain ⟨q, hq⟩ : ∃ q, r.length = q + 1 := ⟨r.length - 1, by omega⟩
      rw [hq]; rfl
    · rw [Nat.zero_add]
      cases j with
      | zero => exact other_has h00.2.1 hlast.2.2.2 (hc 0 hj).2.2.1 (fun e => hd 0 (r.length - 1) (by omega) (by omega) e.symm)
      | succ j =>
        have hj' := hc j (by omega)
        have hn : nextI r j = r.getD (j + 1) 0 := by unfold nextI; rw [mod_in hj]
        rw [hn] at hj'
        exact other_has (tieA_good hg (hin _ hj)).2.1 hj'.2.2.2 (hc _ hj).2.2.1 (hd j (j + 1) (by omega) hj)
theorem ringP_eq {l : List S39} (hg : goodT l) (r : List Int) : ringP l r = isRingR l r := by
  unfold ringP isRingR
  by_cases h3 : r.length < 3
  · rw [if_pos h3, if_pos h3]
  · rw [if_neg h3, if_neg h3]
    have f0 := ringN_fst l r r.length 0 0 0
    have h3' : 3 ≤ r.length := by omega
    by_cases h : (ringN l r r.length 0 0 0).2 = true
    · obtain ⟨hin, fr, hfr, hw⟩ := walk_of_ring hg h3' h
      rw [if_pos h] at f0
      have e1 : ringN l r r.length 0 0 0 = (((0 + feSum l r r.length 0 : Nat) : Int), true) := Prod.ext f0 h
      have e2 : ∀ v, (walkF l r v).2 = true → walkF l r v = (((0 + feSum l r r.length 0 : Nat) : Int), true) := fun v hv => Prod.ext (walkN_fst l r v _ _ _ _ _ hv) hv
      rw [if_pos hin, e1]
      by_cases ha : (walkF l r (tieA l (r.getD 0 0)).f0.toNat).2 = true
      · rw [if_pos ha, e2 _ ha]
      · rw [if_neg ha]
        have hb : (walkF l r (tieA l (r.getD 0 0)).f1.toNat).2 = true := by
          rcases hfr with e | e
          · rw [e] at hw; exact absurd hw ha
          · rw [← e]; exact hw
        rw [if_pos hb, e2 _ hb]
    · rw [if_neg h] at f0
      have e1 : ringN l r r.length 0 0 0 = (0, false) := Prod.ext f0 (by simpa using h)
      rw [e1]
      by_cases hin : ∀ k, k < r.length → inR l (r.getD k 0)
      · rw [if_pos hin, if_neg (fun ha => h (ring_of_walk hg h3' hin ha)), if_neg (fun ha => h (ring_of_walk hg h3' hin ha))]
      · rw [if_neg hin]
end Go.Proofs.Ytaegldcifhgnmaa.A

/- Drovers that reach each other by some ties: classes; the groups are these (plain). -/
namespace Go.Proofs.Ytaegldcifhgnmaa.B
open Go.Proofs.Ytaegldcifhgnmaa.A
open Go.RowKit Go.Proofs.YtaegldcifhgnmaaW.PrintWords Go.Proofs.YtaegldcifhgnmaaW.PrintMore
section
variable {q : S39 → Bool} {l : List S39} {n : Nat}
/-- A set that no such tie leaves. -/
def Clo (q : S39 → Bool) (l : List S39) (S : Nat → Prop) : Prop := ∀ t ∈ l, q t = true → (S t.f0.toNat ↔ S t.f1.toNat)
/-- Reached by such ties. -/
def Conn (q : S39 → Bool) (l : List S39) (a b : Nat) : Prop := ∀ S : Nat → Prop, Clo q l S → S a → S b
theorem conn_refl (a : Nat) : Conn q l a a := fun _ _ h => h
theorem conn_trans {a b c : Nat} (h : Conn q l a b) (h' : Conn q l b c) : Conn q l a c := fun S hS ha => h' S hS (h S hS ha)
theorem conn_symm {a b : Nat} (h : Conn q l a b) : Conn q l b a := fun S hS hb => by
  by_cases ha : S a
  · exact ha
  · exact absurd hb (h (fun v => ¬ S v) (fun t ht hq => not_congr (hS t ht hq)) ha)
theorem conn_tie {t : S39} (ht : t ∈ l) (hq : q t = true) : Conn q l t.f0.toNat t.f1.toNat := fun _ hS h => (hS t ht hq).mp h
theorem clo_conn (a : Nat) : Clo q l (Conn q l a) := fun _ ht hq => ⟨fun h => conn_trans h (conn_tie ht hq), fun h => conn_trans h (conn_symm (conn_tie ht hq))⟩
/-- Of a set as a number. -/
def CloN (q : S39 → Bool) (l : List S39) (x : Nat) : Prop := Clo q l fun v => x.testBit v = true
theorem conn_lt (hl : okN n l) {a b : Nat} (h : Conn q l a b) (ha : a < n) : b < n := by
  refine h (fun v => v < n) (fun t ht _ => ?_) ha
  have := hl t ht
  exact ⟨fun _ => by omega, fun _ => by omega⟩

/-! ### spread -/
theorem pairB_bit (t : S39) (i : Nat) : (pairB t).testBit i = (decide (i = t.f0.toNat) || decide (i = t.f1.toNat)) := by
  unfold pairB
  rw [or_bit, tb_two]; rfl
theorem addT_bit (t : S39) (x i : Nat) : (addT q t x).testBit i = true ↔ x.testBit i = true ∨ (q t = true ∧ (x.testBit t.f0.toNat = true ∨ x.testBit t.f1.toNat = true) ∧ (i = t.f0.toNat ∨ i = t.f1.toNat)) := by
  have hm : x &&& pairB t ≠ 0 ↔ (x.testBit t.f0.toNat = true ∨ x.testBit t.f1.toNat = true) := by
    constructor
    · intro h
      obtain ⟨i, hi⟩ := Nat.exists_testBit_of_ne_zero h
      rw [Nat.testBit_and, pairB_bit, Bool.and_eq_true, Bool.or_eq_true, decide_eq_true_iff, decide_eq_true_iff] at hi
      rcases hi.2 with e | e
      · rw [← e]; exact Or.inl hi.1
      · rw [← e]; exact Or.inr hi.1
    · intro h e
      have hz : ∀ i, (x &&& pairB t).testBit i = false := fun i => by rw [e, Nat.zero_testBit]
      rcases h with h | h
      · have := hz t.f0.toNat
        rw [Nat.testBit_and, pairB_bit, h, decide_eq_true rfl] at this
        cases this
      · have := hz t.f1.toNat
        rw [Nat.testBit_and, pairB_bit, h, decide_eq_true (p := t.f1.toNat = t.f1.toNat) rfl, Bool.or_true] at this
        cases this
  unfold addT
  by_cases h : q t = true ∧ x &&& pairB t ≠ 0
  · rw [if_pos h, Nat.testBit_or, pairB_bit, Bool.or_eq_true, Bool.or_eq_true, decide_eq_true_iff, decide_eq_true_iff]
    have := hm.mp h.2
    exact ⟨fun h' => h'.elim Or.inl fun h'' => Or.inr ⟨h.1, this, h''⟩, fun h' => h'.elim Or.inl fun h'' => Or.inr h''.2.2⟩
  · rw [if_neg h]
    exact ⟨Or.inl, fun h' => h'.elim id fun h'' => absurd ⟨h''.1, hm.mpr h''.2.1⟩ h⟩
theorem addK_mono {x : Nat} : ∀ {k m}, k ≤ m → ∀ i, (addK q l x k).testBit i = true → (addK q l x m).testBit i = true
  | k, 0, h, i, hi => by have : k = 0 := by omega
                         rw [this] at hi; exact hi
  | k, m + 1, h, i, hi => by
    by_cases e : k = m + 1
    · rw [e] at hi; exact hi
    · exact addT_sup (addK_mono (show k ≤ m by omega) i hi)
theorem ext_bits {x y : Nat} (h : ∀ i, x.testBit i = true ↔ y.testBit i = true) : x = y := Nat.eq_of_testBit_eq fun i => by rw [Bool.eq_iff_iff]; exact h i
theorem clo_of_fix {x : Nat} (h : addK q l x l.length = x) : CloN q l x := by
  intro t ht hq
  obtain ⟨k, hk, e⟩ := List.getElem_of_mem ht
  have hg : l.getD k z39 = t := by rw [List.getD_eq_getElem?_getD, List.getElem?_eq_getElem hk, e]; rfl
  have hall : ∀ m, m ≤ l.length → addK q l x m = x := fun m hm => ext_bits fun i => ⟨fun hi => by have := addK_mono hm i hi; rw [h] at this; exact this, fun hi => addK_sup hi m⟩
  have h1 := hall (k + 1) (by omega)
  rw [addK, hall k (by omega), hg] at h1
  constructor
  · intro h0
    rw [← h1]
    exact (addT_bit t x _).mpr (Or.inr ⟨hq, Or.inl h0, Or.inr rfl⟩)
  · intro h0
    rw [← h1]
    exact (addT_bit t x _).mpr (Or.inr ⟨hq, Or.inr h0, Or.inl rfl⟩)
theorem addT_fix {t : S39} {x : Nat} (h : CloN q l x) (ht : t ∈ l) : addT q t x = x := by
  refine ext_bits fun i => ⟨fun hi => ?_, addT_sup⟩
  rcases (addT_bit t x i).mp hi with h1 | ⟨h1, h2, h3⟩
  · exact h1
  · have := h t ht h1
    have h0 : x.testBit t.f0.toNat = true := h2.elim id this.mpr
    rcases h3 with e | e
    · rw [e]; exact h0
    · rw [e]; exact this.mp h0
theorem addK_fix {x : Nat} (h : CloN q l x) : ∀ k, k ≤ l.length → addK q l x k = x
  | 0, _ => rfl
  | k + 1, hk => by rw [addK, addK_fix h k (by omega)]; exact addT_fix h (getD_mem z39 (by omega))
/-- How many drovers a set has. -/
def card (n x : Nat) : Nat := ((List.range n).filter fun i => x.testBit i).length
theorem card_le (n x : Nat) : card n x ≤ n := by
  have := List.length_filter_le (fun i => x.testBit i) (List.range n)
  rw [List.length_range] at this
  exact this
theorem filter_sub {α : Type} {p p' : α → Bool} : ∀ {L : List α}, (∀ a ∈ L, p a = true → p' a = true) → (L.filter p).length ≤ (L.filter p').length ∧ ((∃ a ∈ L, p a = false ∧ p' a = true) → (L.filter p).length < (L.filter p').length)
  | [], _ => ⟨Nat.le_refl _, fun ⟨a, h, _⟩ => absurd h (by simp)⟩
  | b :: L, h => by
    obtain ⟨h1, h2⟩ := filter_sub (L := L) fun a ha => h a (List.mem_cons_of_mem b ha)
    have hb := h b List.mem_cons_self
    cases e : p b with
    | true =>
      rw [List.filter_cons_of_pos e, List.filter_cons_of_pos (hb e), List.length_cons, List.length_cons]
      refine ⟨by omega, fun ⟨a, ha, h3, h4⟩ => ?_⟩
      rcases List.mem_cons.mp ha with rfl | ha
      · rw [e] at h3; cases h3
      · have := h2 ⟨a, ha, h3, h4⟩; omega
    | false =>
      rw [List.filter_cons_of_neg (by rw [e]; decide)]
      cases e' : p' b with
      | true => rw [List.filter_cons_of_pos e', List.length_cons]; exact ⟨by omega, fun _ => by omega⟩
      | false =>
        rw [List.filter_cons_of_neg (by rw [e']; decide)]
        refine ⟨h1, fun ⟨a, ha, h3, h4⟩ => ?_⟩
        rcases List.mem_cons.mp ha with rfl | ha
        · rw [e'] at h4; cases h4
        · exact h2 ⟨a, ha, h3, h4⟩
theorem card_lt {x y : Nat} (hs : ∀ i, x.testBit i = true → y.testBit i = true) (hy : y < 2 ^ n) (hne : x ≠ y) : card n x < card n y := by
  refine (filter_sub (fun i _ => hs i)).2 ?_
  have : ∃ i, y.testBit i = true ∧ x.testBit i = false := by
    refine Classical.byContradiction fun hno => hne (ext_bits fun i => ⟨hs i, fun hi => ?_⟩)
    cases e : x.testBit i with
    | true => rfl
    | false => exact absurd ⟨i, hi, e⟩ hno
  obtain ⟨i, h1, h2⟩ := this
  refine ⟨i, List.mem_range.mpr ?_, h2, h1⟩
  rw [← Nat.not_le]
  intro hi
  rw [tb_big hy hi] at h1
  cases h1
theorem spread_clo (hl : okN n l) {x : Nat} (hx : x < 2 ^ n) (h0 : x ≠ 0) : CloN q l (spread q l x n) := by
  have key : ∀ k, CloN q l (spread q l x k) ∨ k + 1 ≤ card n (spread q l x k) := by
    intro k
    induction k with
    | zero =>
      right
      have := card_lt (n := n) (x := 0) (y := x) (fun i h => by rw [Nat.zero_testBit] at h; cases h) hx (Ne.symm h0)
      show 1 ≤ card n x
      omega
    | succ k ih =>
      rw [spread]
      rcases ih with h | h
      · left; rw [addK_fix h _ (Nat.le_refl _)]; exact h
      · by_cases e : addK q l (spread q l x k) l.length = spread q l x k
        · left; rw [e]; exact clo_of_fix e
        · right
          have := card_lt (n := n) (x := spread q l x k) (y := addK q l (spread q l x k) l.length) (fun i h => addK_sup h _) (addK_lt hl (spread_lt hl hx k) _ (Nat.le_refl _)) (Ne.symm e)
          omega
  rcases key n with h | h
  · exact h
  · have := card_le n (spread q l x n)
    omega
theorem spread_conn (a : Nat) : ∀ k i, (spread q l (2 ^ a) k).testBit i = true → Conn q l a i
  | 0, i, hi => by
    rw [spread, tb_two, beq_iff_eq] at hi
    rw [hi]; exact conn_refl a
  | k + 1, i, hi => by
    have ih := spread_conn a k
    have key : ∀ m, m ≤ l.length → ∀ i, (addK q l (spread q l (2 ^ a) k) m).testBit i = true → Conn q l a i := by
      intro m
      induction m with
      | zero => exact fun _ => ih
      | succ m ihm =>
        intro hm i hi
        rw [addK] at hi
        rcases (addT_bit _ _ i).mp hi with h | ⟨h1, h2, h3⟩
        · exact ihm (by omega) i h
        · have ht := getD_mem (l := l) z39 (show m < l.length by omega)
          have hc := clo_conn (q := q) (l := l) a _ ht h1
          have h0 : Conn q l a (l.getD m z39).f0.toNat := h2.elim (ihm (by omega) _) fun h => hc.mpr (ihm (by omega) _ h)
          rcases h3 with e | e
          · rw [e]; exact h0
          · rw [e]; exact hc.mp h0
    exact key l.length (Nat.le_refl _) i hi
/-- The class of a drover, as a set. -/
def classN (q : S39 → Bool) (n : Nat) (l : List S39) (a : Nat) : Nat := spread q l (2 ^ a) n
theorem two_ne (a : Nat) : 2 ^ a ≠ 0 := by have := Nat.two_pow_pos a; omega
theorem class_bit (hl : okN n l) {a : Nat} (ha : a < n) (i : Nat) : (classN q n l a).testBit i = true ↔ Conn q l a i := by
  refine ⟨spread_conn a n i, fun h => ?_⟩
  refine h _ (spread_clo (q := q) hl (Nat.pow_lt_pow_right (by decide) ha) (two_ne a)) ?_
  exact spread_sup (by rw [tb_two]; simp) n
theorem class_lt (hl : okN n l) {a : Nat} (ha : a < n) : classN q n l a < 2 ^ n := spread_lt hl (Nat.pow_lt_pow_right (by decide) ha) n
theorem class_same (hl : okN n l) {a b : Nat} (ha : a < n) (h : Conn q l a b) : classN q n l a = classN q n l b :=
  ext_bits fun i => by rw [class_bit hl ha, class_bit hl (conn_lt hl h ha)]; exact ⟨conn_trans (conn_symm h), conn_trans h⟩

/-! ### the groups: the classes of those drovers that are the least of theirs -/
def leastB (q : S39 → Bool) (n : Nat) (l : List S39) (v : Nat) : Bool := (List.range v).all fun u => !(classN q n l v).testBit u
theorem leastB_iff (hl : okN n l) {v : Nat} (hv : v < n) : leastB q n l v = true ↔ ∀ u, u < v → ¬ Conn q l u v := by
  unfold leastB
  rw [List.all_eq_true]
  constructor
  · intro h u hu hc
    have := h u (List.mem_range.mpr hu)
    rw [(class_bit hl hv u).mpr (conn_symm hc)] at this
    cases this
  · intro h u hu
    rw [Bool.not_eq_true', ← Bool.not_eq_true]
    exact fun hc => h u (List.mem_range.mp hu) (conn_symm ((class_bit hl hv u).mp hc))
def groupsC (q : S39 → Bool) (n : Nat) (l : List S39) (k : Nat) : List Int := (((List.range' k (n - k)).filter (leastB q n l)).map fun v => ((classN q n l v : Nat) : Int))
theorem low_table2 : (List.range 256).all (fun x => x == 0 || (List.range 8).any fun i => x.testBit i && (lowB x == 2 ^ i) && (List.range i).all fun j => !x.testBit j) = true := by decide +kernel
theorem low_is {x : Nat} (h : x < 256) (h0 : x ≠ 0) : ∃ i, x.testBit i = true ∧ lowB x = 2 ^ i ∧ ∀ j, j < i → x.testBit j = false := by
  have := List.all_eq_true.1 low_table2 x (List.mem_range.2 h)
  rw [Bool.or_eq_true, beq_iff_eq] at this
  rcases this with h1 | h1
  · exact absurd h1 h0
  · obtain ⟨i, _, hi⟩ := List.any_eq_true.1 h1
    rw [Bool.and_eq_true, Bool.and_eq_true, beq_iff_eq] at hi
    refine ⟨i, hi.1.1, hi.1.2, fun j hj => ?_⟩
    have := List.all_eq_true.1 hi.2 j (List.mem_range.2 hj)
    simpa using this
theorem range'_skip {p : Nat → Bool} : ∀ {d k m : Nat}, k ≤ m → (∀ j, k ≤ j → j < m → p j = false) → (List.range' k (d + (m - k))).filter p = (List.range' m d).filter p := by
  intro d k m hkm h
  obtain ⟨e, rfl⟩ : ∃ e, m = k + e := ⟨m - k, by omega⟩
  induction e generalizing k with
  | zero => rw [Nat.add_zero, Nat.sub_self, Nat.add_zero]
  | succ e ih =>
    have e1 : d + (k + (e + 1) - k) = (d + (k + 1 + e - (k + 1))) + 1 := by omega
    rw [e1, List.range'_succ, List.filter_cons_of_neg (by rw [h k (Nat.le_refl _) (by omega)]; decide), ih (by omega) fun j h1 h2 => h j (by omega) (by omega)]
    rw [show k + (e + 1) = k + 1 + e by omega]
theorem groups_left (h8 : n ≤ 8) (hl : okN n l) : ∀ f left k, left < 2 ^ n → left ≤ f → k ≤ n → CloN q l left → (∀ v, v < n → (left.testBit v = true ↔ k ≤ v ∧ ∀ u, u < k → ¬ Conn q l u v)) → groupsL q n l f left = groupsC q n l k := by
  intro f
  induction f with
  | zero =>
    intro left k h1 h2 hk _ h4
    have : left = 0 := by omega
    subst this
    rw [groupsL]
    unfold groupsC
    rw [List.filter_eq_nil_iff.mpr]
    · rfl
    · intro v hv hle
      obtain ⟨h5, h6⟩ := List.mem_range'_1.mp hv
      have hvn : v < n := by omega
      have := (h4 v hvn).mpr ⟨h5, fun u hu => (leastB_iff hl hvn).mp hle u (by omega)⟩
      rw [Nat.zero_testBit] at this
      cases this
  | succ f ih =>
    intro left k h1 h2 hk h3 h4
    rw [groupsL]
    by_cases h0 : left = 0
    · subst h0
      rw [if_pos rfl]
      unfold groupsC
      rw [List.filter_eq_nil_iff.mpr]
      · rfl
      · intro v hv hle
        obtain ⟨h5, h6⟩ := List.mem_range'_1.mp hv
        have hvn : v < n := by omega
        have := (h4 v hvn).mpr ⟨h5, fun u hu => (leastB_iff hl hvn).mp hle u (by omega)⟩
        rw [Nat.zero_testBit] at this
        cases this
    · rw [if_neg h0]
      obtain ⟨a, ha, hlow, hno⟩ := low_is (Nat.lt_of_lt_of_le h1 (pow8 h8)) h0
      have han : a < n := by
        rw [← Nat.not_le]; intro h; rw [tb_big h1 h] at ha; cases ha
      obtain ⟨hka, hac⟩ := (h4 a han).mp ha
      have hleast : leastB q n l a = true := (leastB_iff hl han).mpr fun u hu hc => by
        by_cases huk : u < k
        · exact hac u huk hc
        · have := hno u hu
          have h6 : left.testBit u = true := conn_symm hc (fun v => left.testBit v = true) h3 ha
          rw [this] at h6; cases h6
      have hcl : spread q l (lowB left) n = classN q n l a := by rw [hlow]; rfl
      have hb : ∀ i, (less left (classN q n l a)).testBit i = true ↔ left.testBit i = true ∧ ¬ Conn q l a i := fun i => by
        rw [tb_less, Bool.and_eq_true, Bool.not_eq_true', ← Bool.not_eq_true, class_bit hl han]
      have hdec : less left (classN q n l a) < left := less_dec ha ((class_bit hl han a).mpr (conn_refl a))
      have e : groupsC q n l k = ((classN q n l a : Nat) : Int) :: groupsC q n l (a + 1) := by
        unfold groupsC
        rw [show n - k = (n - a) + (a - k) by omega, range'_skip hka, show n - a = (n - (a + 1)) + 1 by omega, List.range'_succ, List.filter_cons_of_pos hleast, List.map_cons]
        intro j hj1 hj2
        rw [← Bool.not_eq_true, leastB_iff hl (by omega)]
        intro hle
        have := (h4 j (by omega)).mpr ⟨hj1, fun u hu => hle u (by omega)⟩
        rw [hno j hj2] at this
        cases this
      rw [hcl, e]
      congr 1
      refine ih _ (a + 1) (by omega) (by omega) (by omega) ?_ fun v hv => ?_
      · intro t ht hq
        have g1 := h3 t ht hq
        have g2 := clo_conn (q := q) (l := l) a t ht hq
        show (less left _).testBit _ = true ↔ (less left _).testBit _ = true
        rw [hb, hb]
        exact and_congr g1 (not_congr g2)
      · rw [hb, h4 v hv]
        constructor
        · rintro ⟨⟨h5, h6⟩, h7⟩
          refine ⟨?_, fun u hu hc => ?_⟩
          · rw [← Nat.not_lt]; intro h8
            by_cases e1 : v = a
            · rw [e1] at h7; exact h7 (conn_refl a)
            · have := hno v (by omega)
              rw [(h4 v hv).mpr ⟨h5, h6⟩] at this; cases this
          · by_cases huk : u < k
            · exact h6 u huk hc
            · by_cases e1 : u = a
              · rw [e1] at hc; exact h7 hc
              · have h8 := hno u (by omega)
                have h9 : left.testBit u = true := conn_symm hc (fun v => left.testBit v = true) h3 ((h4 v hv).mpr ⟨h5, h6⟩)
                rw [h8] at h9; cases h9
        · rintro ⟨h5, h6⟩
          exact ⟨⟨by omega, fun u hu => h6 u (by omega)⟩, h6 a (by omega)⟩
theorem groups_eq (h8 : n ≤ 8) (hl : okN n l) : groupsF q n l = groupsC q n l 0 := by
  have hp := Nat.two_pow_pos n
  refine groups_left h8 hl _ _ 0 (by omega) (by omega) (Nat.zero_le _) ?_ fun v hv => ?_
  · intro t ht _
    have := hl t ht
    show (2 ^ n - 1).testBit _ = true ↔ (2 ^ n - 1).testBit _ = true
    rw [Nat.testBit_two_pow_sub_one, Nat.testBit_two_pow_sub_one, decide_eq_true_iff, decide_eq_true_iff]
    exact ⟨fun _ => by omega, fun _ => by omega⟩
  · rw [Nat.testBit_two_pow_sub_one, decide_eq_true_iff]
    exact ⟨fun _ => ⟨Nat.zero_le _, fun u hu => absurd hu (Nat.not_lt_zero u)⟩, fun _ => hv⟩
theorem groups_mem (h8 : n ≤ 8) (hl : okN n l) {g : Int} : g ∈ groupsF q n l ↔ ∃ v, v < n ∧ leastB q n l v = true ∧ g = ((classN q n l v : Nat) : Int) := by
  rw [groups_eq h8 hl]
  unfold groupsC
  rw [List.mem_map]
  constructor
  · rintro ⟨v, hv, e⟩
    obtain ⟨h1, h2⟩ := List.mem_filter.mp hv
    have := (List.mem_range'_1.mp h1).2
    exact ⟨v, by omega, h2, e.symm⟩
  · rintro ⟨v, hv, h, e⟩
    exact ⟨v, List.mem_filter.mpr ⟨List.mem_range'_1.mpr ⟨Nat.zero_le _, by omega⟩, h⟩, e.symm⟩
/-- Each class has a least drover. -/
theorem least_of (hl : okN n l) {a : Nat} (ha : a < n) : ∃ v, v ≤ a ∧ leastB q n l v = true ∧ Conn q l v a := by
  induction a using Nat.strongRecOn with
  | _ a ih =>
    by_cases h : leastB q n l a = true
    · exact ⟨a, Nat.le_refl _, h, conn_refl a⟩
    · rw [leastB_iff hl ha] at h
      have : ∃ u, u < a ∧ Conn q l u a := Classical.byContradiction fun hno => h fun u hu hc => hno ⟨u, hu, hc⟩
      obtain ⟨u, hu, hc⟩ := this
      obtain ⟨v, h1, h2, h3⟩ := ih u hu (by omega)
      exact ⟨v, by omega, h2, conn_trans h3 hc⟩
theorem groups_has (h8 : n ≤ 8) (hl : okN n l) {a b : Nat} (ha : a < n) : (∃ g ∈ groupsF q n l, g.toNat.testBit a = true ∧ g.toNat.testBit b = true) ↔ Conn q l a b := by
  constructor
  · rintro ⟨g, hg, h1, h2⟩
    obtain ⟨v, hv, _, rfl⟩ := (groups_mem h8 hl).mp hg
    rw [Int.toNat_natCast, class_bit hl hv] at h1 h2
    exact conn_trans (conn_symm h1) h2
  · intro h
    obtain ⟨v, h1, h2, h3⟩ := least_of (q := q) hl ha
    refine ⟨_, (groups_mem h8 hl).mpr ⟨v, by omega, h2, rfl⟩, ?_, ?_⟩
    · rw [Int.toNat_natCast, class_bit hl (by omega)]; exact h3
    · rw [Int.toNat_natCast, class_bit hl (by omega)]; exact conn_trans h3 h
end
end Go.Proofs.Ytaegldcifhgnmaa.B

/- The reference's groups are the classes, too (plain). -/
namespace Go.Proofs.Ytaegldcifhgnmaa.B
open Go.Proofs.Ytaegldcifhgnmaa.A
open Go.RowKit Go.Proofs.YtaegldcifhgnmaaW.PrintWords Go.Proofs.YtaegldcifhgnmaaW.PrintMore
section
variable {q : S39 → Bool} {l : List S39} {n : Nat}
/-- The least drover found so far, of each drover, behind the first k ties. -/
def atF (q : S39 → Bool) (l : List S39) : Nat → Nat → Nat
  | 0, v => v
  | k + 1, v => if q (l.getD k z39) = true ∧ atF q l k v = max (atF q l k (l.getD k z39).f0.toNat) (atF q l k (l.getD k z39).f1.toNat) then min (atF q l k (l.getD k z39).f0.toNat) (atF q l k (l.getD k z39).f1.toNat) else atF q l k v
theorem atF_le : ∀ k v, atF q l k v ≤ v
  | 0, v => Nat.le_refl v
  | k + 1, v => by
    rw [atF]
    have := atF_le k v
    split
    · omega
    · exact this
theorem atF_conn : ∀ k, k ≤ l.length → ∀ v, Conn q l v (atF q l k v)
  | 0, _, v => conn_refl v
  | k + 1, hk, v => by
    rw [atF]
    have ih := atF_conn k (by omega)
    split
    · rename_i h
      have ht := getD_mem (l := l) z39 (show k < l.length by omega)
      have hab : Conn q l (atF q l k (l.getD k z39).f0.toNat) (atF q l k (l.getD k z39).f1.toNat) := conn_trans (conn_symm (ih _)) (conn_trans (conn_tie ht h.1) (ih _))
      have hv := ih v
      rw [h.2] at hv
      revert hv hab
      generalize atF q l k (l.getD k z39).f0.toNat = a
      generalize atF q l k (l.getD k z39).f1.toNat = b
      intro hab hv
      rcases Nat.le_total a b with h1 | h1
      · rw [Nat.max_eq_right h1] at hv; rw [Nat.min_eq_left h1]; exact conn_trans hv (conn_symm hab)
      · rw [Nat.max_eq_left h1] at hv; rw [Nat.min_eq_right h1]; exact conn_trans hv hab
    · exact ih v
theorem atF_tie : ∀ k, k ≤ l.length → ∀ i, i < k → q (l.getD i z39) = true → atF q l k (l.getD i z39).f0.toNat = atF q l k (l.getD i z39).f1.toNat
  | 0, _, i, hi, _ => absurd hi (Nat.not_lt_zero i)
  | k + 1, hk, i, hi, hq => by
    by_cases e : i = k
    · subst e
      rw [atF, atF]
      generalize atF q l i (l.getD i z39).f0.toNat = a
      generalize atF q l i (l.getD i z39).f1.toNat = b
      rcases Nat.le_total a b with h1 | h1
      · rw [Nat.max_eq_right h1, Nat.min_eq_left h1, if_pos (c := q (l.getD i z39) = true ∧ b = b) ⟨hq, rfl⟩]
        split <;> rfl
      · rw [Nat.max_eq_left h1, Nat.min_eq_right h1, if_pos (c := q (l.getD i z39) = true ∧ a = a) ⟨hq, rfl⟩]
        split <;> rfl
    · have := atF_tie k (by omega) i (by omega) hq
      rw [atF, atF, this]
theorem atF_same {u v : Nat} (h : Conn q l u v) : atF q l l.length u = atF q l l.length v := by
  refine h (fun w => atF q l l.length u = atF q l l.length w) (fun t ht hq => ?_) rfl
  obtain ⟨i, hi, e⟩ := List.getElem_of_mem ht
  have hg : l.getD i z39 = t := by rw [List.getD_eq_getElem?_getD, List.getElem?_eq_getElem hi, e]; rfl
  have := atF_tie (q := q) l.length (Nat.le_refl _) i hi (by rw [hg]; exact hq)
  rw [hg] at this
  show atF q l l.length u = atF q l l.length t.f0.toNat ↔ atF q l l.length u = atF q l l.length t.f1.toNat
  rw [this]
theorem atF_iff {u v : Nat} : atF q l l.length u = atF q l l.length v ↔ Conn q l u v :=
  ⟨fun h => by
    have h1 := atF_conn (q := q) (l := l) l.length (Nat.le_refl _) u
    have h2 := atF_conn (q := q) (l := l) l.length (Nat.le_refl _) v
    rw [h] at h1
    exact conn_trans h1 (conn_symm h2), atF_same⟩
/-- It is v where v is the least of its class and of u's. -/
theorem atF_is (hl : okN n l) {u v : Nat} (hv : v < n) : atF q l l.length u = v ↔ leastB q n l v = true ∧ Conn q l v u := by
  rw [leastB_iff hl hv]
  constructor
  · intro h
    have h1 := atF_conn (q := q) (l := l) l.length (Nat.le_refl _) u
    rw [h] at h1
    refine ⟨fun w hw hc => ?_, conn_symm h1⟩
    have h2 := atF_same (conn_trans hc (conn_symm h1))
    have h3 := atF_le (q := q) (l := l) l.length w
    omega
  · rintro ⟨h1, h2⟩
    have h3 := atF_same h2
    rw [← h3]
    have h4 := atF_le (q := q) (l := l) l.length v
    by_cases e : atF q l l.length v = v
    · exact e
    · exact absurd (conn_symm (atF_conn l.length (Nat.le_refl _) v)) (h1 _ (by omega))

/-! ### rows of numbers as functions -/
def tabL (n : Nat) (f : Nat → Nat) : List Int := (List.range n).map fun v => (f v : Int)
theorem tab_len (n : Nat) (f : Nat → Nat) : (tabL n f).length = n := by unfold tabL; rw [List.length_map, List.length_range]
theorem rd_tab {f : Nat → Nat} {v : Nat} (h : v < n) : rd (tabL n f) (v : Int) = (f v : Int) := by
  unfold rd tabL
  rw [Int.toNat_natCast, List.getD_eq_getElem?_getD, List.getElem?_map, List.getElem?_range h]; rfl
theorem tab_congr {f g : Nat → Nat} (h : ∀ v, v < n → f v = g v) : tabL n f = tabL n g := by
  unfold tabL
  exact List.map_congr_left fun v hv => by rw [h v (List.mem_range.mp hv)]
theorem set_tab {f : Nat → Nat} {v y : Nat} : (tabL n f).set v (y : Int) = tabL n fun u => if u = v then y else f u := by
  refine List.ext_getElem? fun i => ?_
  unfold tabL
  rw [List.getElem?_set, List.length_map, List.length_range, List.getElem?_map, List.getElem?_map]
  by_cases hi : i < n
  · rw [List.getElem?_range hi]
    by_cases e : v = i
    · subst e
      rw [if_pos rfl, if_pos hi, Option.map_some]
      show some _ = some (((if v = v then y else f v : Nat)) : Int)
      rw [if_pos rfl]
    · rw [if_neg e, Option.map_some, Option.map_some]
      show some _ = some (((if i = v then y else f i : Nat)) : Int)
      rw [if_neg (fun h : i = v => e h.symm)]
  · have : (List.range n)[i]? = none := by rw [List.getElem?_eq_none]; rw [List.length_range]; omega
    rw [this]
    by_cases e : v = i
    · subst e; rw [if_pos rfl, if_neg hi]; rfl
    · rw [if_neg e]; rfl
theorem tab_zero : List.replicate n (0 : Int) = tabL n fun _ => 0 := by
  unfold tabL
  rw [List.map_const', List.length_range]; rfl

/-! ### the reference's groups -/
/-- Which ties count. -/
def askT (friends : Bool) : S39 → Bool := if friends = true then friendB else anyT
theorem grp_l4 (hl : okN n l) (h8 : n ≤ 8) {v : Nat} (hv : v < n) {out R : List Int} (hol : out.length ≤ n)
    (h : Ev (fun k => drovewayref09_groups.l3 k n (tabL n (atF q l l.length)) (if leastB q n l v = true then out ++ [((classN q n l v : Nat) : Int)] else out) ((v + 1 : Nat) : Int)) R) :
    ∀ (m u s : Nat), n - u = m → v ≤ u → u ≤ n → s < 2 ^ u → (∀ i, s.testBit i = true ↔ v ≤ i ∧ i < u ∧ atF q l l.length i = v) → Ev (fun k => drovewayref09_groups.l4 k n (tabL n (atF q l l.length)) out (v : Int) (s : Int) (u : Int)) R := by
  intro m
  induction m with
  | zero =>
    intro u s hm hvu hun hs hb
    obtain rfl : u = n := by omega
    refine Ev.step (fun k => ?_) h
    rw [drovewayref09_groups.l4, if_neg (by omega), wrapS (show v < 100 by omega) (by omega)]
    have hc : ∀ i, s.testBit i = true ↔ (leastB q u l v = true ∧ Conn q l v i) := fun i => by
      rw [hb, atF_is hl hv]
      constructor
      · exact fun h => h.2.2
      · intro h
        refine ⟨?_, conn_lt hl h.2 hv, h⟩
        rw [← Nat.not_lt]
        exact fun hlt => (leastB_iff hl hv).mp h.1 i hlt (conn_symm h.2)
    by_cases hle : leastB q u l v = true
    · have e : s = classN q u l v := ext_bits fun i => by rw [hc, class_bit hl hv]; exact ⟨fun h => h.2, fun h => ⟨hle, h⟩⟩
      have h0 : s ≠ 0 := fun h0 => by
        have := (hc v).mpr ⟨hle, conn_refl v⟩
        rw [h0, Nat.zero_testBit] at this; cases this
      rw [if_pos (by omega), if_pos (by omega), if_pos hle, e]
    · have e : s = 0 := ext_bits fun i => by rw [hc, Nat.zero_testBit]; exact ⟨fun h => absurd h.1 hle, fun h => by cases h⟩
      rw [e, if_neg (by omega), if_neg hle]
  | succ m ih =>
    intro u s hm hvu hun hs hb
    have hpu : (2 : Nat) ^ u ≤ 256 := pow8 (by omega)
    by_cases ha : atF q l l.length u = v
    · refine Ev.step (fun k => ?_) (ih (u + 1) (s + 2 ^ u) (by omega) (by omega) (by omega) (by rw [Nat.pow_succ]; omega) fun i => ?_)
      · rw [drovewayref09_groups.l4, if_pos (by omega), if_pos (by omega), tab_len, if_pos (by omega), rd_tab (by omega), if_pos (by omega), shl_one (by omega), wrapS (show u < 100 by omega) (by omega)]
        congr 1
        rw [wrap64_id (by omega) (by omega)]; omega
      · have e2 := Nat.two_pow_add_eq_or_of_lt hs 1
        rw [Nat.mul_one] at e2
        rw [Nat.add_comm, e2, Nat.testBit_or, tb_two, Bool.or_eq_true, beq_iff_eq, hb]
        constructor
        · rintro (h | h)
          · subst h; exact ⟨hvu, by omega, ha⟩
          · exact ⟨h.1, by omega, h.2.2⟩
        · intro h
          by_cases e : i = u
          · exact Or.inl e
          · exact Or.inr ⟨h.1, by omega, h.2.2⟩
    · refine Ev.step (fun k => ?_) (ih (u + 1) s (by omega) (by omega) (by omega) (by rw [Nat.pow_succ]; omega) fun i => ?_)
      · rw [drovewayref09_groups.l4, if_pos (by omega), if_pos (by omega), tab_len, if_pos (by omega), rd_tab (by omega), if_neg (by omega), wrapS (show u < 100 by omega) (by omega)]
      · rw [hb]
        constructor
        · exact fun h => ⟨h.1, by omega, h.2.2⟩
        · intro h
          have : i ≠ u := fun e => by rw [e] at h; exact ha h.2.2
          exact ⟨h.1, by omega, h.2.2⟩
theorem grp_l3 (hl : okN n l) (h8 : n ≤ 8) : ∀ m v out, n - v = m → v ≤ n → out.length ≤ v → Ev (fun k => drovewayref09_groups.l3 k n (tabL n (atF q l l.length)) out (v : Int)) (out ++ groupsC q n l v) := by
  intro m
  induction m with
  | zero =>
    intro v out hm hv ho
    obtain rfl : v = n := by omega
    refine Ev.step (f := fun _ => some out) (fun k => by rw [drovewayref09_groups.l3, if_neg (by omega)]) ?_
    unfold groupsC
    rw [Nat.sub_self]
    simp only [List.range'_zero, List.filter_nil, List.map_nil, List.append_nil]
    exact Ev.now _
  | succ m ih =>
    intro v out hm hv ho
    have hvn : v < n := by omega
    refine Ev.step (fun k => ?_) (grp_l4 (q := q) (out := out) hl h8 hvn (by omega) ?_ (n - v) v 0 rfl (Nat.le_refl _) hv (Nat.two_pow_pos v) (fun i => ?_))
    · rw [drovewayref09_groups.l3, if_pos (by omega)]; rfl
    · have e : groupsC q n l v = (if leastB q n l v = true then [((classN q n l v : Nat) : Int)] else []) ++ groupsC q n l (v + 1) := by
        unfold groupsC
        rw [show n - v = (n - (v + 1)) + 1 by omega, List.range'_succ, List.filter_cons]
        split <;> rfl
      rw [e]
      by_cases hle : leastB q n l v = true
      · rw [if_pos hle, if_pos hle, ← List.append_assoc]
        exact ih (v + 1) _ (by omega) (by omega) (by rw [List.length_append, List.length_singleton]; omega)
      · rw [if_neg hle, if_neg hle, List.nil_append]
        exact ih (v + 1) _ (by omega) (by omega) (by omega)
    · rw [Nat.zero_testBit]
      exact ⟨fun h => (by cases h), fun h => by omega⟩
theorem mx_nat (a b : Nat) : mx (a : Int) (b : Int) = ((max a b : Nat) : Int) := by
  unfold mx
  split <;> omega
theorem mn_nat (a b : Nat) : mn (a : Int) (b : Int) = ((min a b : Nat) : Int) := by
  unfold mn
  split <;> omega
/-- The row in the midst of a tie's round. -/
def midF (q : S39 → Bool) (l : List S39) (i v u : Nat) : Nat := if u < v then atF q l (i + 1) u else atF q l i u
theorem grp_l2 {fr : Bool} (hl : okN n l) (h8 : n ≤ 8) (hlen : l.length ≤ 1000) {i : Nat} (hi : i < l.length) {R : List Int} (h : Ev (fun k => drovewayref09_groups.l1 k n l fr (tabL n (atF (askT fr) l (i + 1))) ((i + 1 : Nat) : Int)) R) (hq : askT fr (l.getD i z39) = true) :
    ∀ m v, n - v = m → v ≤ n → Ev (fun k => drovewayref09_groups.l2 k n l fr (tabL n (midF (askT fr) l i v)) (i : Int) (atF (askT fr) l i (l.getD i z39).f0.toNat : Int) (atF (askT fr) l i (l.getD i z39).f1.toNat : Int) (v : Int)) R := by
  have hgo : ∀ k v, v < n → drovewayref09_groups.l2 (k + 1) n l fr (tabL n (midF (askT fr) l i v)) (i : Int) (atF (askT fr) l i (l.getD i z39).f0.toNat : Int) (atF (askT fr) l i (l.getD i z39).f1.toNat : Int) (v : Int) = drovewayref09_groups.j3 k n l fr (tabL n (midF (askT fr) l i v)) (i : Int) (atF (askT fr) l i (l.getD i z39).f0.toNat : Int) (atF (askT fr) l i (l.getD i z39).f1.toNat : Int) (v : Int) true := by
    intro k v hv
    rw [drovewayref09_groups.l2, if_pos (by omega)]
    cases fr with
    | false => rfl
    | true =>
      have : (l.getD i z39).f2 = false := by unfold askT friendB at hq; simpa using hq
      rw [if_pos rfl, if_pos (by omega), if_pos (by omega), rdT, this]; rfl
  intro m
  induction m with
  | zero =>
    intro v hm hv
    obtain rfl : v = n := by omega
    refine Ev.step (f := fun k => drovewayref09_groups.j3 k v l fr (tabL v (midF (askT fr) l i v)) (i : Int) (atF (askT fr) l i (l.getD i z39).f0.toNat : Int) (atF (askT fr) l i (l.getD i z39).f1.toNat : Int) (v : Int) false) (fun k => by rw [drovewayref09_groups.l2, if_neg (by omega)]) ?_
    refine Ev.step (fun k => ?_) h
    rw [drovewayref09_groups.j3, if_neg (by decide), wrapS hi (by omega)]
    congr 1
    exact tab_congr fun u hu => by unfold midF; rw [if_pos hu]
  | succ m ih =>
    intro v hm hv
    have hvn : v < n := by omega
    refine Ev.step (fun k => hgo k v hvn) ?_
    refine Ev.step (fun k => ?_) (ih (v + 1) (by omega) (by omega))
    rw [drovewayref09_groups.j3, if_pos rfl, if_pos (by omega), tab_len, if_pos (by omega), rd_tab hvn, mx_nat, mn_nat, wrapS (show v < 100 by omega) (by omega), Int.toNat_natCast, set_tab]
    have hmv : midF (askT fr) l i v v = atF (askT fr) l i v := by unfold midF; rw [if_neg (by omega)]
    rw [hmv]
    by_cases e : atF (askT fr) l i v = max (atF (askT fr) l i (l.getD i z39).f0.toNat) (atF (askT fr) l i (l.getD i z39).f1.toNat)
    · rw [if_pos (by rw [e])]
      congr 1
      refine tab_congr fun u _ => ?_
      unfold midF
      by_cases hu : u = v
      · rw [if_pos hu, if_pos (by omega), hu, atF, if_pos ⟨hq, e⟩]
      · rw [if_neg hu]
        by_cases h1 : u < v
        · rw [if_pos h1, if_pos (by omega)]
        · rw [if_neg h1, if_neg (by omega)]
    · rw [if_neg (by omega)]
      congr 1
      refine tab_congr fun u _ => ?_
      unfold midF
      by_cases hu : u = v
      · rw [if_neg (by omega), if_pos (by omega), hu, atF, if_neg (fun h => e h.2)]
      · by_cases h1 : u < v
        · rw [if_pos h1, if_pos (by omega)]
        · rw [if_neg h1, if_neg (by omega)]
theorem grp_l1 {fr : Bool} (hl : okN n l) (h8 : n ≤ 8) (hlen : l.length ≤ 1000) : ∀ m i, l.length - i = m → i ≤ l.length → Ev (fun k => drovewayref09_groups.l1 k n l fr (tabL n (atF (askT fr) l i)) (i : Int)) (groupsC (askT fr) n l 0) := by
  intro m
  induction m with
  | zero =>
    intro i hm hi
    obtain rfl : i = l.length := by omega
    refine Ev.step (fun k => ?_) (grp_l3 (q := askT fr) hl h8 n 0 [] (by omega) (Nat.zero_le _) (Nat.le_refl _))
    rw [drovewayref09_groups.l1, if_neg (by omega)]; rfl
  | succ m ih =>
    intro i hm hi
    have hil : i < l.length := by omega
    have ht := hl _ (getD_mem z39 hil)
    have hn := ih (i + 1) (by omega) (by omega)
    have hstart : ∀ k, drovewayref09_groups.l1 (k + 1) n l fr (tabL n (atF (askT fr) l i)) (i : Int) = drovewayref09_groups.l2 k n l fr (tabL n (atF (askT fr) l i)) (i : Int) (atF (askT fr) l i (l.getD i z39).f0.toNat : Int) (atF (askT fr) l i (l.getD i z39).f1.toNat : Int) 0 := by
      intro k
      have r0 := rd_tab (n := n) (f := atF (askT fr) l i) (v := (l.getD i z39).f0.toNat) (by omega)
      have r1 := rd_tab (n := n) (f := atF (askT fr) l i) (v := (l.getD i z39).f1.toNat) (by omega)
      rw [Int.toNat_of_nonneg (by omega)] at r0 r1
      rw [drovewayref09_groups.l1, if_pos (by omega), if_pos (by omega), rdT, if_pos (by omega), tab_len, if_pos (by omega), if_pos (by omega), if_pos (by omega), r0, r1]
    refine Ev.step hstart ?_
    cases hq : askT fr (l.getD i z39) with
    | true =>
      refine Ev.congr (fun k => ?_) (grp_l2 hl h8 hlen hil hn hq n 0 (by omega) (Nat.zero_le _))
      congr 1
    | false =>
      have hf : fr = true ∧ (l.getD i z39).f2 = true := by
        cases fr with
        | false => unfold askT anyT at hq; simp at hq
        | true => unfold askT friendB at hq; simpa using hq
      obtain ⟨rfl, hf2⟩ := hf
      have hmid : tabL n (atF (askT true) l i) = tabL n (atF (askT true) l (i + 1)) := tab_congr fun u _ => by rw [atF, if_neg (fun h => by rw [hq] at h; cases h.1)]
      refine Ev.step (f := fun k => drovewayref09_groups.j3 k n l true (tabL n (atF (askT true) l i)) (i : Int) (atF (askT true) l i (l.getD i z39).f0.toNat : Int) (atF (askT true) l i (l.getD i z39).f1.toNat : Int) 0 false) (fun k => ?_) ?_
      · rw [drovewayref09_groups.l2, if_pos (by omega), if_pos rfl, if_pos (by omega), if_pos (by omega), rdT, hf2]; rfl
      · refine Ev.step (fun k => ?_) hn
        rw [drovewayref09_groups.j3, if_neg (by decide), wrapS hil (by omega), hmid]
theorem grp_l0 {fr : Bool} (hl : okN n l) (h8 : n ≤ 8) (hlen : l.length ≤ 1000) : ∀ m v, n - v = m → v ≤ n → Ev (fun k => drovewayref09_groups.l0 k n l fr (tabL n fun u => if u < v then u else 0) (v : Int)) (groupsC (askT fr) n l 0) := by
  intro m
  induction m with
  | zero =>
    intro v hm hv
    obtain rfl : v = n := by omega
    refine Ev.step (fun k => ?_) (grp_l1 (fr := fr) hl h8 hlen l.length 0 (by omega) (Nat.zero_le _))
    rw [drovewayref09_groups.l0, if_neg (by omega)]
    congr 1
    exact tab_congr fun u hu => by rw [if_pos hu]; rfl
  | succ m ih =>
    intro v hm hv
    refine Ev.step (fun k => ?_) (ih (v + 1) (by omega) (by omega))
    rw [drovewayref09_groups.l0, if_pos (by omega), if_pos (by omega), tab_len, if_pos (by omega), wrapS (show v < 100 by omega) (by omega), Int.toNat_natCast, set_tab]
    congr 1
    refine tab_congr fun u _ => ?_
    by_cases hu : u = v
    · rw [if_pos hu, if_pos (by omega), hu]
    · rw [if_neg hu]
      by_cases h1 : u < v
      · rw [if_pos h1, if_pos (by omega)]
      · rw [if_neg h1, if_neg (by omega)]
theorem grp_ev {fr : Bool} (ht : tiesE n l = 0) : Ev (fun k => drovewayref09_groups.f k n l fr) (groupsF (askT fr) n l) := by
  have h1 := tiesE_parts ht
  have hl := tiesE_ok ht
  rw [groups_eq (by omega) hl]
  refine Ev.congr (fun k => ?_) (grp_l0 (fr := fr) hl (by omega) (by omega) n 0 (by omega) (Nat.zero_le _))
  unfold drovewayref09_groups.f
  rw [if_pos (by omega), if_pos (by omega), Int.toNat_natCast, tab_zero]
  congr 1
end
end Go.Proofs.Ytaegldcifhgnmaa.B

/- The reference's Clans are the program's (plain). -/
namespace Go.Proofs.Ytaegldcifhgnmaa.B
open Go.Proofs.Ytaegldcifhgnmaa.A
open Go.RowKit Go.Proofs.YtaegldcifhgnmaaW.PrintWords Go.Proofs.YtaegldcifhgnmaaW.PrintMore
section
variable {l : List S39} {G : List Int}
/-! ### sorting by insertion -/
theorem rd_mid (A B : List Int) (x : Int) : rd (A ++ x :: B) (A.length : Int) = x := by
  unfold rd
  rw [Int.toNat_natCast, List.getD_eq_getElem?_getD, List.getElem?_append_right (Nat.le_refl _), Nat.sub_self]; rfl
theorem set_mid (A B : List Int) (x y : Int) : (A ++ x :: B).set A.length y = A ++ y :: B := by
  rw [List.set_append_right _ _ (Nat.le_refl _), Nat.sub_self]; rfl
theorem cl_l3 {i : Nat} {out : List Int × Int} : ∀ (m : Nat) (A B : List Int) (x : Int), A.length = m → (A ++ x :: B).length ≤ 1000 → A.Pairwise (· ≤ ·) → (x :: B).Pairwise (· ≤ ·) → (∀ a ∈ A, ∀ b ∈ B, a ≤ b) →
    (∀ S : List Int, S.Pairwise (· ≤ ·) → S.Perm (A ++ x :: B) → Ev (fun k => drovewayref09_Clans.l2 k G S (wrap64 ((i : Int) + 1))) out) → Ev (fun k => drovewayref09_Clans.l3 k G (A ++ x :: B) (i : Int) (A.length : Int)) out := by
  intro m
  induction m with
  | zero =>
    intro A B x hA hl hs1 hs2 hab h
    obtain rfl : A = [] := List.length_eq_zero_iff.mp hA
    refine Ev.step (fun k => ?_) (h _ hs2 (List.Perm.refl _))
    rw [drovewayref09_Clans.l3, if_neg (by simp)]; rfl
  | succ m ih =>
    intro A B x hA hl hs1 hs2 hab h
    obtain ⟨A', y, rfl⟩ : ∃ A' y, A = A' ++ [y] := ⟨A.dropLast, A.getLast (by intro e; rw [e] at hA; cases hA), (List.dropLast_concat_getLast _).symm⟩
    have hA' : A'.length = m := by rw [List.length_append, List.length_singleton] at hA; omega
    have e1 : A' ++ [y] ++ x :: B = A' ++ y :: (x :: B) := by rw [List.append_assoc]; rfl
    have r1 := rd_mid (A' ++ [y]) B x
    have r2 := rd_mid A' (x :: B) y
    rw [List.length_append, List.length_singleton] at r1
    have hs1' := List.pairwise_append.mp hs1
    have hlen : (A' ++ [y] ++ x :: B).length = A'.length + 2 + B.length := by simp; omega
    have hw : wrap64 (((A'.length + 1 : Nat) : Int) - 1) = (A'.length : Int) := by rw [hlen] at hl; rw [wrap64_id (by omega) (by omega)]; omega
    by_cases hxy : x < y
    · refine Ev.step (fun k => ?_) (ih A' (y :: B) x hA' (by rw [List.length_append, List.length_cons, List.length_cons]; omega) hs1'.1 ?_ ?_ fun S hS hp => h S hS ?_)
      · rw [drovewayref09_Clans.l3, List.length_append, List.length_singleton, if_pos (by omega), if_pos (by omega), if_pos (by omega), hw, if_pos (by omega), if_pos (by omega), r1]
        rw [e1, r2, if_pos hxy, Int.toNat_natCast, Int.toNat_natCast]
        congr 1
        have s1 := set_mid (A' ++ [y]) B x y
        rw [List.length_append, List.length_singleton, e1] at s1
        rw [s1, List.append_assoc]
        exact set_mid A' ([] ++ y :: B) y x
      · refine List.pairwise_cons.mpr ⟨fun b hb => ?_, List.pairwise_cons.mpr ⟨fun b hb => hab y (by simp) b hb, (List.pairwise_cons.mp hs2).2⟩⟩
        rcases List.mem_cons.mp hb with e | e
        · rw [e]; omega
        · exact (List.pairwise_cons.mp hs2).1 b e
      · intro a ha b hb
        rcases List.mem_cons.mp hb with e | e
        · rw [e]; exact hs1'.2.2 a ha y (by simp)
        · exact hab a (by simp [ha]) b e
      · refine hp.trans ?_
        rw [e1]
        exact (List.Perm.swap y x B).append_left A'
    · refine Ev.step (fun k => ?_) (h _ ?_ (List.Perm.refl _))
      · rw [drovewayref09_Clans.l3, List.length_append, List.length_singleton, if_pos (by omega), if_pos (by omega), if_pos (by omega), hw, if_pos (by omega), if_pos (by omega), r1, e1, r2, if_neg hxy]
      · refine List.pairwise_append.mpr ⟨hs1, hs2, fun a ha b hb => ?_⟩
        have hay : a ≤ y := by
          rcases List.mem_append.mp ha with e | e
          · exact hs1'.2.2 a e y (by simp)
          · have : a = y := by simpa using e
            omega
        rcases List.mem_cons.mp hb with e | e
        · omega
        · have := (List.pairwise_cons.mp hs2).1 b e
          omega
theorem sortI_is {S : List Int} (hs : S.Pairwise (· ≤ ·)) (hp : S.Perm G) : S = sortI G := by
  have h1 := List.pairwise_mergeSort (le := fun x y : Int => decide (x ≤ y)) (fun a b c h1 h2 => by simp at h1 h2 ⊢; omega) (fun a b => by simp; omega) G
  have h2 : (sortI G).Pairwise (· ≤ ·) := h1.imp fun h => by simpa using h
  exact List.Perm.eq_of_pairwise (le := (· ≤ ·)) (fun a b _ _ h1 h2 => by omega) hs h2 (hp.trans (List.mergeSort_perm G _).symm)
theorem cl_l2 (hG : G.length ≤ 900) : ∀ (m i : Nat) (S : List Int), G.length - i = m → i ≤ G.length → S.Pairwise (· ≤ ·) → S.Perm (G.take i) → Ev (fun k => drovewayref09_Clans.l2 k G S (i : Int)) (sortI G, 0) := by
  intro m
  induction m with
  | zero =>
    intro i S hm hi hs hp
    obtain rfl : i = G.length := by omega
    rw [List.take_length] at hp
    refine Ev.step (f := fun _ => some (S, 0)) (fun k => by rw [drovewayref09_Clans.l2, if_neg (by omega)]) ?_
    rw [sortI_is hs hp]
    exact Ev.now _
  | succ m ih =>
    intro i S hm hi hs hp
    have hil : i < G.length := by omega
    have hSl : S.length = i := by rw [hp.length_eq, List.length_take]; omega
    refine Ev.step (fun k => ?_) (cl_l3 (G := G) (i := i) S.length S [] (rd G (i : Int)) rfl (by rw [List.length_append, List.length_singleton]; omega) hs (List.pairwise_singleton _ _) (fun a _ b hb => by cases hb) fun S' hs' hp' => ?_)
    · rw [drovewayref09_Clans.l2, if_pos (by omega), if_pos (by omega), if_pos (by omega)]
      simp only [Option.bind_some, List.length_append, List.length_singleton]
      have hw : wrap64 (((S.length + 1 : Nat) : Int) - 1) = (S.length : Int) := by rw [wrap64_id (by omega) (by omega)]; omega
      rw [hw]
    · rw [wrapS hil (by omega)]
      refine ih (i + 1) S' (by omega) (by omega) hs' (hp'.trans ?_)
      have e : G.take (i + 1) = G.take i ++ [rd G (i : Int)] := by
        rw [List.take_succ_eq_append_getElem hil]
        unfold rd
        rw [Int.toNat_natCast, List.getD_eq_getElem?_getD, List.getElem?_eq_getElem hil]; rfl
      rw [e]
      exact hp.append_right _

/-! ### feuds within a clan -/
theorem cl_bit {g : Int} {v : Int} (hg : 0 ≤ g) (hv : 0 ≤ v ∧ v < 60) : (Int.tmod (shr .i64 g v) 2 = 1) ↔ g.toNat.testBit v.toNat = true := by
  obtain ⟨a, rfl⟩ := Int.eq_ofNat_of_zero_le hg
  obtain ⟨b, rfl⟩ := Int.eq_ofNat_of_zero_le hv.1
  have := shr_mod a b (by omega)
  rw [Int.toNat_natCast, Int.toNat_natCast, this]
  cases a.testBit b <;> simp
theorem cl_l1 (hg : goodT l) (hG0 : ∀ g ∈ G, 0 ≤ g) (hG : G.length ≤ 900) (hlen : l.length ≤ 1000) {i : Nat} (hi : i < l.length) {R : List Int × Int} (h : ((l.getD i z39).f2 && G.any (bothB (l.getD i z39))) = false → Ev (fun k => drovewayref09_Clans.l0 k l G ((i + 1 : Nat) : Int)) R) (h' : ((l.getD i z39).f2 && G.any (bothB (l.getD i z39))) = true → R = ([], 10)) :
    ∀ (m j : Nat), G.length - j = m → j ≤ G.length → (∀ j', j' < j → ((l.getD i z39).f2 && bothB (l.getD i z39) (rd G (j' : Int))) = false) → Ev (fun k => drovewayref09_Clans.l1 k l G (i : Int) (j : Int)) R := by
  have gi := hg _ (getD_mem z39 hi)
  have hoff : ∀ k j, drovewayref09_Clans.j2 (k + 1) l G (i : Int) j false = drovewayref09_Clans.l0 k l G ((i + 1 : Nat) : Int) := fun k j => by rw [drovewayref09_Clans.j2, if_neg (by decide), wrapS hi (by omega)]
  intro m
  induction m with
  | zero =>
    intro j hm hj hno
    obtain rfl : j = G.length := by omega
    refine Ev.step (f := fun k => drovewayref09_Clans.j2 k l G (i : Int) (G.length : Int) false) (fun k => by rw [drovewayref09_Clans.l1, if_neg (by omega)]) ?_
    refine Ev.step (fun k => hoff k _) (h ?_)
    cases hf : (l.getD i z39).f2 with
    | false => rfl
    | true =>
      rw [Bool.true_and, List.any_eq_false]
      intro g hgm
      obtain ⟨j', hj', e⟩ := List.getElem_of_mem hgm
      have := hno j' hj'
      rw [hf, Bool.true_and] at this
      have e2 : rd G (j' : Int) = g := by unfold rd; rw [Int.toNat_natCast, List.getD_eq_getElem?_getD, List.getElem?_eq_getElem hj', e]; rfl
      rw [e2] at this
      rw [this]; decide
  | succ m ih =>
    intro j hm hj hno
    have hjl : j < G.length := by omega
    have hmem : rd G (j : Int) ∈ G := by unfold rd; rw [Int.toNat_natCast]; exact getD_mem 0 hjl
    refine Ev.step (f := fun k => drovewayref09_Clans.j2 k l G (i : Int) (j : Int) (l.getD i z39).f2) (fun k => by rw [drovewayref09_Clans.l1, if_pos (by omega), if_pos (by omega), if_pos (by omega), rdT]) ?_
    cases hf : (l.getD i z39).f2 with
    | false => exact Ev.step (fun k => hoff k _) (h (by rw [hf]; rfl))
    | true =>
      have b0 := cl_bit (v := (l.getD i z39).f0) (hG0 _ hmem) (by omega)
      have b1 := cl_bit (v := (l.getD i z39).f1) (hG0 _ hmem) (by omega)
      cases hb : bothB (l.getD i z39) (rd G (j : Int)) with
      | true =>
        have hb' := hb
        unfold bothB at hb'
        rw [Bool.and_eq_true] at hb'
        rw [h' (by rw [hf, Bool.true_and, List.any_eq_true]; exact ⟨_, hmem, hb⟩)]
        refine Ev.step (f := fun _ => some ([], 10)) (fun k => ?_) (Ev.now _)
        rw [drovewayref09_Clans.j2, if_pos rfl, if_pos (by omega), if_pos (by omega), if_pos (by omega), if_pos (by omega), rdT, if_pos (by omega), if_pos (b0.mpr hb'.1), if_pos (by omega), if_pos (b1.mpr hb'.2)]
      | false =>
        have hb' := hb
        unfold bothB at hb'
        refine Ev.step (fun k => ?_) (ih (j + 1) (by omega) (by omega) fun j' hj' => ?_)
        · rw [drovewayref09_Clans.j2, if_pos rfl, if_pos (by omega), if_pos (by omega), if_pos (by omega), if_pos (by omega), rdT, if_pos (by omega), wrapS hjl (by omega)]
          by_cases c0 : (rd G (j : Int)).toNat.testBit (l.getD i z39).f0.toNat = true
          · rw [c0, Bool.true_and] at hb'
            rw [if_pos (b0.mpr c0), if_pos (by omega), if_neg (fun h => by rw [b1.mp h] at hb'; cases hb')]
          · rw [if_neg (fun h => c0 (b0.mp h))]
        · by_cases e : j' = j
          · rw [e, hb, Bool.and_false]
          · exact hno j' (by omega)
theorem cl_l0 (hg : goodT l) (hG0 : ∀ g ∈ G, 0 ≤ g) (hG : G.length ≤ 900) (hlen : l.length ≤ 1000) : ∀ (m i : Nat), l.length - i = m → i ≤ l.length → clashB l G i = false → Ev (fun k => drovewayref09_Clans.l0 k l G (i : Int)) (if clashB l G l.length = true then ([], 10) else (sortI G, 0)) := by
  intro m
  induction m with
  | zero =>
    intro i hm hi hc
    obtain rfl : i = l.length := by omega
    rw [if_neg (by rw [hc]; decide)]
    refine Ev.step (fun k => ?_) (cl_l2 hG G.length 0 [] (by omega) (Nat.zero_le _) List.Pairwise.nil (List.Perm.refl _))
    rw [drovewayref09_Clans.l0, if_neg (by omega)]; rfl
  | succ m ih =>
    intro i hm hi hc
    have hil : i < l.length := by omega
    have hs := clashB_succ l G i
    rw [hc, Bool.false_or] at hs
    refine Ev.step (fun k => ?_) (cl_l1 hg hG0 hG hlen hil (fun h => ih (i + 1) (by omega) (by omega) (by rw [hs]; exact h)) (fun h => ?_) G.length 0 (by omega) (Nat.zero_le _) (fun j' hj' => absurd hj' (Nat.not_lt_zero _)))
    · rw [drovewayref09_Clans.l0, if_pos (by omega)]; rfl
    · rw [if_pos]
      unfold clashB
      rw [List.any_eq_true]
      exact ⟨i, List.mem_range.mpr hil, h⟩
theorem clash_perm {G' : List Int} (hp : G'.Perm G) (k : Nat) : clashB l G' k = clashB l G k := by
  unfold clashB
  congr 1
  funext i
  congr 1
  rw [Bool.eq_iff_iff, List.any_eq_true, List.any_eq_true]
  exact ⟨fun ⟨g, h1, h2⟩ => ⟨g, hp.mem_iff.mp h1, h2⟩, fun ⟨g, h1, h2⟩ => ⟨g, hp.mem_iff.mpr h1, h2⟩⟩
theorem filter_len_le {α : Type} (p : α → Bool) (L : List α) : (L.filter p).length ≤ L.length := List.length_filter_le p L
theorem groups_len {q : S39 → Bool} {n : Nat} (h8 : n ≤ 8) (hl : okN n l) : (groupsF q n l).length ≤ n := by
  rw [groups_eq h8 hl]
  unfold groupsC
  rw [List.length_map]
  have := filter_len_le (leastB q n l) (List.range' 0 (n - 0))
  rw [List.length_range'] at this
  omega
theorem clans_ev {n : Int} (hlen : l.length ≤ 1000) : Ev (fun k => drovewayref09_Clans.f k n l) (clansF n l) := by
  unfold drovewayref09_Clans.f
  by_cases ht : tiesE n l = 0
  · have h1 := tiesE_parts ht
    obtain ⟨m, rfl⟩ : ∃ m : Nat, n = m := ⟨n.toNat, by omega⟩
    refine Ev.bind (f := fun k t => if t = 0 then ((drovewayref09_groups.f k m l true).bind fun t117 => (drovewayref09_Clans.l0 k l t117 0)) else (some (([] : List Int), t))) (Ties_ev (n := (m : Int)) (l := l) (by omega)) ?_
    rw [ht]
    simp only [if_true]
    refine Ev.bind (f := fun k t => drovewayref09_Clans.l0 k l t 0) (grp_ev (fr := true) ht) ?_
    have h8 : m ≤ 8 := by omega
    have hG0 : ∀ g ∈ groupsF friendB m l, 0 ≤ g := fun g hg => by
      obtain ⟨v, _, _, rfl⟩ := (groups_mem h8 (tiesE_ok ht)).mp hg
      exact Int.natCast_nonneg _
    have hgl := groups_len (q := friendB) h8 (tiesE_ok ht)
    have := cl_l0 (tiesE_good ht) hG0 (by omega) (by omega) l.length 0 (by omega) (Nat.zero_le _) rfl
    unfold clansF
    rw [if_pos ht, Int.toNat_natCast, clash_perm (show (sortI (groupsF friendB m l)).Perm (groupsF friendB m l) from List.mergeSort_perm _ _)]
    exact this
  · unfold clansF
    rw [if_neg ht]
    refine Ev.bind (f := fun k t => if t = 0 then ((drovewayref09_groups.f k n l true).bind fun t117 => (drovewayref09_Clans.l0 k l t117 0)) else (some (([] : List Int), t))) (Ties_ev (n := n) (l := l) (by omega)) ?_
    exact Ev.congr (fun k => by rw [if_neg ht]) (Ev.now _)
end
end Go.Proofs.Ytaegldcifhgnmaa.B

/- The specification's searches for rings (plain). -/
namespace Go.Proofs.Ytaegldcifhgnmaa.B
open Go.Proofs.Ytaegldcifhgnmaa.A
open Go.RowKit Go.Proofs.YtaegldcifhgnmaaW.PrintWords Go.Proofs.YtaegldcifhgnmaaW.PrintMore
def lessB (a b : List Int) : Bool := decide (cmpL a b < 0)
/-- What is asked for of a ring's feuds. -/
def askB (one : Bool) (fe : Int) : Bool := if one = true then fe == 1 else Int.tmod fe 2 == 1
def ringedR (l : List S39) (one : Bool) : Nat → List Int → Nat → Nat → Option (List Int)
  | 0, now, _, _ => if ((isRingR l now).2 && askB one (isRingR l now).1) = true then some now else none
  | d + 1, now, at_, met => firstN (fun i => match otherN (l.getD i z39) at_ with
    | none => none
    | some v => if met.testBit v = true then none else ringedR l one d (now ++ [(i : Int)]) v (met ||| 2 ^ v)) l.length
def startR (l : List S39) (one : Bool) (size i fr : Nat) : Option (List Int) := ringedR l one (size - 1) [(i : Int)] fr (2 ^ fr)
def pickR (a b : Option (List Int)) : Option (List Int) := match a with
  | none => b
  | some x => match b with
    | none => some x
    | some y => if lessB x y = true then some x else some y
def pairR (l : List S39) (one : Bool) (size i : Nat) : Option (List Int) := pickR (startR l one size i (l.getD i z39).f0.toNat) (startR l one size i (l.getD i z39).f1.toNat)
def sizeR (l : List S39) (one : Bool) (size : Nat) : Option (List Int) := if 3 ≤ size then firstN (pairR l one size) l.length else none
def shortR (l : List S39) (one : Bool) (n : Nat) : Option (List Int) := firstN (sizeR l one) (n + 1)
theorem ringedR_len (l : List S39) (one : Bool) : ∀ d now at_ met x, ringedR l one d now at_ met = some x → x.length = now.length + d := by
  intro d
  induction d with
  | zero =>
    intro now at_ met x h
    rw [ringedR] at h
    split at h
    · cases h; rfl
    · cases h
  | succ d ih =>
    intro now at_ met x h
    rw [ringedR] at h
    have key : ∀ (F : Nat → Option (List Int)), (∀ i x, F i = some x → x.length = now.length + (d + 1)) → ∀ k x, firstN F k = some x → x.length = now.length + (d + 1) := by
      intro F hF k
      induction k with
      | zero => intro x h; cases h
      | succ k ihk =>
        intro x h
        rw [firstN] at h
        cases e : firstN F k with
        | some y =>
          rw [e] at h
          have := Option.some.inj h
          subst this
          exact ihk _ e
        | none => rw [e] at h; exact hF k x h
    refine key _ (fun i x hx => ?_) _ _ h
    cases e : otherN (l.getD i z39) at_ with
    | none => rw [e] at hx; cases hx
    | some v =>
      rw [e] at hx
      dsimp only at hx
      split at hx
      · cases hx
      · have := ih _ _ _ _ hx
        rw [List.length_append, List.length_singleton] at this
        omega
end Go.Proofs.Ytaegldcifhgnmaa.B

/- The program's best list and the specification's shortest ring are one (plain). -/
namespace Go.Proofs.Ytaegldcifhgnmaa.B
open Go.Proofs.Ytaegldcifhgnmaa.A
open Go.RowKit Go.Proofs.YtaegldcifhgnmaaW.PrintWords Go.Proofs.YtaegldcifhgnmaaW.PrintMore

/-! ### the order of lists -/
theorem cmpI_self (a : Int) : cmpI a a = 0 := by unfold cmpI; rw [if_neg (by omega), if_neg (by omega)]
theorem cmpL_self : ∀ a : List Int, cmpL a a = 0
  | [] => rfl
  | a :: at_ => by rw [cmpL, cmpI_self, if_pos rfl, cmpL_self at_]
theorem cmpI_swap (a b : Int) : cmpI b a = - cmpI a b := by
  unfold cmpI
  by_cases h1 : a < b <;> by_cases h2 : b < a <;> simp [h1, h2] <;> omega
theorem cmpI_zero {a b : Int} (h : cmpI a b = 0) : a = b := by
  unfold cmpI at h
  split at h
  · omega
  · split at h <;> omega
theorem cmpL_swap : ∀ a b : List Int, cmpL b a = - cmpL a b
  | [], [] => rfl
  | [], _ :: _ => rfl
  | _ :: _, [] => rfl
  | a :: at_, b :: bs => by
    rw [cmpL, cmpL, cmpI_swap a b, cmpL_swap at_ bs]
    by_cases h : cmpI a b = 0
    · rw [if_pos h, if_pos (by omega)]
    · rw [if_neg h, if_neg (by omega)]
theorem cmpL_eq : ∀ a b : List Int, cmpL a b = 0 → a = b
  | [], [] => fun _ => rfl
  | [], _ :: _ => fun h => by simp [cmpL] at h
  | _ :: _, [] => fun h => by simp [cmpL] at h
  | a :: at_, b :: bs => fun h => by
    rw [cmpL] at h
    by_cases h0 : cmpI a b = 0
    · rw [if_pos h0] at h
      rw [cmpI_zero h0, cmpL_eq at_ bs h]
    · rw [if_neg h0] at h; exact absurd h h0
theorem cmpL_trans : ∀ a b c : List Int, cmpL a b ≤ 0 → cmpL b c ≤ 0 → cmpL a c ≤ 0
  | [], _, [] => fun _ _ => by simp [cmpL]
  | [], _, _ :: _ => fun _ _ => by simp [cmpL]
  | a :: at_, [], _ => fun h _ => by simp [cmpL] at h
  | a :: at_, b :: bs, [] => fun _ h => by simp [cmpL] at h
  | a :: at_, b :: bs, c :: cs => fun h1 h2 => by
    rw [cmpL] at h1 h2 ⊢
    have ih := cmpL_trans at_ bs cs
    unfold cmpI at h1 h2 ⊢
    by_cases x1 : a < b <;> by_cases x2 : b < a <;> by_cases y1 : b < c <;> by_cases y2 : c < b <;> by_cases z1 : a < c <;> by_cases z2 : c < a <;> simp [x1, x2, y1, y2, z1, z2] at h1 h2 ⊢ <;> first | omega | exact ih h1 h2
theorem cmpL_pre : ∀ (p a b : List Int), cmpL (p ++ a) (p ++ b) = cmpL a b
  | [], _, _ => rfl
  | p :: ps, a, b => by rw [List.cons_append, List.cons_append, cmpL, cmpI_self, if_pos rfl, cmpL_pre ps]
theorem cmpL_lt {i j : Int} (h : i < j) (a b : List Int) : cmpL (i :: a) (j :: b) ≤ 0 := by
  rw [cmpL]
  unfold cmpI
  rw [if_pos h, if_neg (by decide)]
  decide

/-! ### the least -/
def IsLeast (P : List Int → Prop) (S : Option (List Int)) : Prop := match S with
  | none => ∀ x, ¬ P x
  | some b => P b ∧ ∀ x, P x → cmpL b x ≤ 0
theorem least_one {P Q : List Int → Prop} {S T : Option (List Int)} (hs : IsLeast P S) (ht : IsLeast Q T) (h : ∀ x, P x ↔ Q x) : S = T := by
  cases S with
  | none =>
    cases T with
    | none => rfl
    | some b => exact absurd ((h b).mpr ht.1) (hs b)
  | some a =>
    cases T with
    | none => exact absurd ((h a).mp hs.1) (ht a)
    | some b =>
      have h1 := hs.2 b ((h b).mpr ht.1)
      have h2 := ht.2 a ((h a).mp hs.1)
      have := cmpL_swap a b
      rw [cmpL_eq a b (by omega)]
theorem least_iff {P Q : List Int → Prop} {S : Option (List Int)} (hs : IsLeast P S) (h : ∀ x, P x ↔ Q x) : IsLeast Q S := by
  cases S with
  | none => exact fun x hx => hs x ((h x).mpr hx)
  | some a => exact ⟨(h a).mp hs.1, fun x hx => hs.2 x ((h x).mpr hx)⟩
theorem least_pick {P Q : List Int → Prop} {S T : Option (List Int)} (hs : IsLeast P S) (ht : IsLeast Q T) : IsLeast (fun x => P x ∨ Q x) (pickR S T) := by
  cases S with
  | none =>
    exact least_iff ht fun x => ⟨Or.inr, fun h => h.elim (fun h => absurd h (hs x)) id⟩
  | some a =>
    cases T with
    | none => exact least_iff hs fun x => ⟨Or.inl, fun h => h.elim id (fun h => absurd h (ht x))⟩
    | some b =>
      unfold pickR
      dsimp only
      by_cases h : lessB a b = true
      · rw [if_pos h]
        have hl : cmpL a b < 0 := of_decide_eq_true h
        exact ⟨Or.inl hs.1, fun x hx => hx.elim (hs.2 x) fun hx => cmpL_trans a b x (by omega) (ht.2 x hx)⟩
      · rw [if_neg h]
        have hl : ¬ cmpL a b < 0 := fun e => h (decide_eq_true e)
        have := cmpL_swap a b
        exact ⟨Or.inr ht.1, fun x hx => hx.elim (fun hx => cmpL_trans b a x (by omega) (hs.2 x hx)) (ht.2 x)⟩
theorem least_first {P : Nat → List Int → Prop} {F : Nat → Option (List Int)} (hF : ∀ i, IsLeast (P i) (F i)) (ho : ∀ i j x y, i < j → P i x → P j y → cmpL x y ≤ 0) : ∀ m, IsLeast (fun x => ∃ i, i < m ∧ P i x) (firstN F m) := by
  intro m
  induction m with
  | zero => exact fun x ⟨i, hi, _⟩ => absurd hi (Nat.not_lt_zero i)
  | succ m ih =>
    rw [firstN]
    cases e : firstN F m with
    | some b =>
      rw [e] at ih
      obtain ⟨i, hi, hp⟩ := ih.1
      refine ⟨⟨i, by omega, hp⟩, fun x ⟨j, hj, hx⟩ => ?_⟩
      by_cases hjm : j < m
      · exact ih.2 x ⟨j, hjm, hx⟩
      · exact ho i j b x (by omega) hp hx
    | none =>
      rw [e] at ih
      refine least_iff (hF m) fun x => ⟨fun h => ⟨m, by omega, h⟩, fun ⟨j, hj, hx⟩ => ?_⟩
      by_cases hjm : j < m
      · exact absurd ⟨j, hjm, hx⟩ (ih x)
      · obtain rfl : j = m := by omega
        exact hx

/-! ### walks -/
def WT (l : List S39) (fr : Nat) : Nat → Nat → List Int → Prop
  | at_, _, [] => at_ = fr
  | at_, met, j :: js => inR l j ∧ ∃ v, otherN (tieA l j) at_ = some v ∧ met.testBit v = false ∧ WT l fr v (met ||| 2 ^ v) js
def PT (l : List S39) (fr : Nat) : Nat → Nat → List Int → Prop
  | at_, _, [] => at_ = fr
  | at_, met, j :: js => inR l j ∧ ∃ v, otherN (tieA l j) at_ = some v ∧ (if js = [] then v = fr else met.testBit v = false) ∧ PT l fr v (met ||| 2 ^ v) js
def DT (l : List S39) : Nat → Nat → List Int → Prop
  | _, _, [] => True
  | at_, met, j :: js => inR l j ∧ ∃ v, otherN (tieA l j) at_ = some v ∧ met.testBit v = false ∧ DT l v (met ||| 2 ^ v) js
def feL (l : List S39) : List Int → Nat
  | [] => 0
  | j :: js => feT (tieA l j) + feL l js
section
variable {l : List S39}
theorem WT_DT {fr : Nat} : ∀ (js : List Int) (at_ met : Nat), WT l fr at_ met js → DT l at_ met js
  | [], _, _, _ => trivial
  | _ :: js, _, _, ⟨h, v, h1, h2, h3⟩ => ⟨h, v, h1, h2, WT_DT js _ _ h3⟩
theorem WT_in {fr : Nat} : ∀ (js : List Int) (at_ met : Nat), WT l fr at_ met js → ∀ j ∈ js, inR l j
  | [], _, _, _ => fun _ hj => absurd hj (by simp)
  | j :: js, _, _, ⟨h, v, _, _, h3⟩ => fun i hi => by
    rcases List.mem_cons.mp hi with e | e
    · rw [e]; exact h
    · exact WT_in js _ _ h3 i e
theorem WT_met {fr : Nat} : ∀ (js : List Int) (at_ met : Nat), met.testBit fr = true → js ≠ [] → ¬ WT l fr at_ met js
  | [], _, _, _, h => fun _ => h rfl
  | j :: js, _, met, hm, _ => fun ⟨_, v, _, h2, h3⟩ => by
    by_cases e : js = []
    · subst e
      rw [WT] at h3
      subst h3
      rw [hm] at h2; cases h2
    · exact WT_met js v (met ||| 2 ^ v) (by rw [or_bit, hm, Bool.true_or]) e h3
theorem WT_PT {fr : Nat} : ∀ (js : List Int) (at_ met : Nat), met.testBit fr = false → (WT l fr at_ met js ↔ PT l fr at_ (met ||| 2 ^ fr) js)
  | [], _, _, _ => Iff.rfl
  | j :: js, at_, met, hm => by
    rw [WT, PT]
    refine and_congr Iff.rfl (exists_congr fun v => and_congr Iff.rfl ?_)
    by_cases e : js = []
    · subst e
      rw [if_pos rfl, WT, PT]
      exact ⟨fun h => ⟨h.2, h.2⟩, fun h => ⟨by rw [h.1]; exact hm, h.2⟩⟩
    · rw [if_neg e]
      have hc : (met ||| 2 ^ fr) ||| 2 ^ v = (met ||| 2 ^ v) ||| 2 ^ fr := by rw [Nat.or_assoc, Nat.or_comm (2 ^ fr), Nat.or_assoc]
      rw [hc, or_bit, Bool.or_eq_false_iff, decide_eq_false_iff_not]
      constructor
      · rintro ⟨h2, h3⟩
        have hv : v ≠ fr := fun ev => WT_met js v (met ||| 2 ^ v) (by rw [or_bit, ev]; simp) e h3
        refine ⟨⟨h2, hv⟩, (WT_PT js v (met ||| 2 ^ v) ?_).mp h3⟩
        rw [or_bit, hm, Bool.false_or, decide_eq_false_iff_not]
        exact fun e => hv e.symm
      · rintro ⟨⟨h2, hv⟩, h3⟩
        refine ⟨h2, (WT_PT js v (met ||| 2 ^ v) ?_).mpr h3⟩
        rw [or_bit, hm, Bool.false_or, decide_eq_false_iff_not]
        exact fun e => hv e.symm
end
end Go.Proofs.Ytaegldcifhgnmaa.B

/- The program's best list and the specification's shortest ring are one: the two searches (plain). -/
namespace Go.Proofs.Ytaegldcifhgnmaa.B
open Go.Proofs.Ytaegldcifhgnmaa.A
open Go.RowKit Go.Proofs.YtaegldcifhgnmaaW.PrintWords Go.Proofs.YtaegldcifhgnmaaW.PrintMore
section
variable {l : List S39}
theorem drop_cons {r : List Int} {k : Nat} (h : k < r.length) : r.drop k = r.getD k 0 :: r.drop (k + 1) := by
  rw [List.drop_eq_getElem_cons h]
  congr 1
  rw [List.getD_eq_getElem?_getD, List.getElem?_eq_getElem h]; rfl
theorem feSum_drop (r : List Int) : ∀ d k, r.length - k = d → k ≤ r.length → feSum l r d k = feL l (r.drop k)
  | 0, k, hd, hk => by
    rw [List.drop_eq_nil_of_le (by omega)]; rfl
  | d + 1, k, hd, hk => by
    rw [drop_cons (by omega), feSum, feL, feSum_drop r d (k + 1) (by omega) (by omega)]; rfl
theorem walkN_WT (r : List Int) (fr : Nat) (hin : ∀ k, k < r.length → inR l (r.getD k 0)) : ∀ d k at_ fe met, r.length - k = d → k ≤ r.length → ((walkN l r fr d k at_ fe met).2 = true ↔ WT l fr at_ met (r.drop k))
  | 0, k, at_, fe, met, hd, hk => by
    rw [List.drop_eq_nil_of_le (by omega), walkN, WT]
    exact decide_eq_true_iff
  | d + 1, k, at_, fe, met, hd, hk => by
    rw [drop_cons (by omega), walkN, WT]
    cases e : otherN (tieA l (r.getD k 0)) at_ with
    | none =>
      dsimp only
      exact ⟨fun h => absurd h Bool.false_ne_true, fun ⟨_, v, h, _⟩ => by cases h⟩
    | some v =>
      dsimp only
      by_cases hb : met.testBit v = true
      · rw [if_pos hb]
        refine ⟨fun h => absurd h Bool.false_ne_true, fun ⟨_, u, h, h2, _⟩ => ?_⟩
        cases h
        rw [hb] at h2; cases h2
      · rw [if_neg hb]
        have ih := walkN_WT r fr hin d (k + 1) v (fe + feA l r k) (met ||| 2 ^ v) (by omega) (by omega)
        rw [ih]
        refine ⟨fun h => ⟨hin k (by omega), v, rfl, by simpa using hb, h⟩, fun ⟨_, u, h, h2, h3⟩ => ?_⟩
        cases h
        exact h3
/-- A ring, one way or the other. -/
def Ringy (l : List S39) (x : List Int) : Prop := ∃ fr : Nat, (fr = (tieA l (x.getD 0 0)).f0.toNat ∨ fr = (tieA l (x.getD 0 0)).f1.toNat) ∧ WT l fr fr 0 x
theorem isRing_iff {x : List Int} (h3 : 3 ≤ x.length) : (isRingR l x).2 = true ↔ Ringy l x := by
  unfold isRingR
  rw [if_neg (by omega)]
  by_cases hin : ∀ k, k < x.length → inR l (x.getD k 0)
  · rw [if_pos hin]
    have w : ∀ fr, (walkF l x fr).2 = true ↔ WT l fr fr 0 x := fun fr => by
      have := walkN_WT x fr hin x.length 0 fr 0 0 (by omega) (Nat.zero_le _)
      rwa [List.drop_zero] at this
    by_cases ha : (walkF l x (tieA l (x.getD 0 0)).f0.toNat).2 = true
    · rw [if_pos ha]
      exact ⟨fun h => ⟨_, Or.inl rfl, (w _).mp h⟩, fun _ => ha⟩
    · rw [if_neg ha]
      by_cases hb : (walkF l x (tieA l (x.getD 0 0)).f1.toNat).2 = true
      · rw [if_pos hb]
        exact ⟨fun h => ⟨_, Or.inr rfl, (w _).mp h⟩, fun _ => hb⟩
      · rw [if_neg hb]
        refine ⟨fun h => absurd h Bool.false_ne_true, fun ⟨fr, hf, hw⟩ => ?_⟩
        rcases hf with e | e
        · rw [e, ← w] at hw; exact absurd hw ha
        · rw [e, ← w] at hw; exact absurd hw hb
  · rw [if_neg hin]
    refine ⟨fun h => absurd h Bool.false_ne_true, fun ⟨fr, _, hw⟩ => ?_⟩
    exact absurd (fun k hk => WT_in x _ _ hw _ (getD_mem 0 hk)) hin
theorem isRing_fe {x : List Int} (h3 : 3 ≤ x.length) (h : (isRingR l x).2 = true) : (isRingR l x).1 = (feL l x : Int) := by
  have w : ∀ fr, (walkF l x fr).2 = true → (walkF l x fr).1 = (feL l x : Int) := fun fr hf => by
    have := walkN_fst l x fr x.length 0 fr 0 0 hf
    rw [Nat.zero_add, feSum_drop x x.length 0 (by omega) (Nat.zero_le _), List.drop_zero] at this
    exact this
  unfold isRingR at h ⊢
  rw [if_neg (by omega)] at h ⊢
  by_cases hin : ∀ k, k < x.length → inR l (x.getD k 0)
  · rw [if_pos hin] at h ⊢
    by_cases ha : (walkF l x (tieA l (x.getD 0 0)).f0.toNat).2 = true
    · rw [if_pos ha]; exact w _ ha
    · rw [if_neg ha] at h ⊢
      by_cases hb : (walkF l x (tieA l (x.getD 0 0)).f1.toNat).2 = true
      · rw [if_pos hb]; exact w _ hb
      · rw [if_neg hb] at h; exact absurd h Bool.false_ne_true
  · rw [if_neg hin] at h; exact absurd h Bool.false_ne_true

/-! ### the specification -/
def okX (l : List S39) (one : Bool) (x : List Int) : Prop := ((isRingR l x).2 && askB one (isRingR l x).1) = true
theorem rg_least (one : Bool) : ∀ d now at_ met, IsLeast (fun x => ∃ js, x = now ++ js ∧ js.length = d ∧ DT l at_ met js ∧ okX l one x) (ringedR l one d now at_ met)
  | 0, now, at_, met => by
    rw [ringedR]
    by_cases h : ((isRingR l now).2 && askB one (isRingR l now).1) = true
    · rw [if_pos h]
      refine ⟨⟨[], by simp, rfl, trivial, h⟩, fun x ⟨js, e, hl, _, _⟩ => ?_⟩
      obtain rfl := List.eq_nil_of_length_eq_zero hl
      rw [e, List.append_nil, cmpL_self]; decide
    · rw [if_neg h]
      rintro x ⟨js, e, hl, _, hx⟩
      obtain rfl := List.eq_nil_of_length_eq_zero hl
      rw [e, List.append_nil] at hx
      exact h hx
  | d + 1, now, at_, met => by
    rw [ringedR]
    have key := least_first (P := fun i x => i < l.length ∧ ∃ v js, x = (now ++ [(i : Int)]) ++ js ∧ js.length = d ∧ otherN (l.getD i z39) at_ = some v ∧ met.testBit v = false ∧ DT l v (met ||| 2 ^ v) js ∧ okX l one x)
      (F := fun i => if i < l.length then (match otherN (l.getD i z39) at_ with
        | none => none
        | some v => if met.testBit v = true then none else ringedR l one d (now ++ [(i : Int)]) v (met ||| 2 ^ v)) else none) (fun i => by
        by_cases hi : i < l.length
        · rw [if_pos hi]
          cases e : otherN (l.getD i z39) at_ with
          | none => rintro x ⟨_, v, js, _, _, h, _⟩; cases h
          | some v =>
            dsimp only
            by_cases hb : met.testBit v = true
            · rw [if_pos hb]
              rintro x ⟨_, u, js, _, _, h, h2, _⟩
              cases h
              rw [hb] at h2; cases h2
            · rw [if_neg hb]
              refine least_iff (rg_least one d (now ++ [(i : Int)]) v (met ||| 2 ^ v)) fun x => ⟨fun ⟨js, h1, h2, h3, h4⟩ => ⟨hi, v, js, h1, h2, rfl, by simpa using hb, h3, h4⟩, fun ⟨_, u, js, h1, h2, h, h5, h3, h4⟩ => ?_⟩
              cases h
              exact ⟨js, h1, h2, h3, h4⟩
        · rw [if_neg hi]
          exact fun x h => hi h.1) (fun i j x y hij ⟨_, v, js, h1, _⟩ ⟨_, u, js', h2, _⟩ => by
        rw [h1, h2, List.append_assoc, List.append_assoc, cmpL_pre]
        exact cmpL_lt (by omega) _ _) l.length
    have hsame : firstN (fun i => if i < l.length then (match otherN (l.getD i z39) at_ with
        | none => none
        | some v => if met.testBit v = true then none else ringedR l one d (now ++ [(i : Int)]) v (met ||| 2 ^ v)) else none) l.length = firstN (fun i => match otherN (l.getD i z39) at_ with
        | none => none
        | some v => if met.testBit v = true then none else ringedR l one d (now ++ [(i : Int)]) v (met ||| 2 ^ v)) l.length := by
      have gen : ∀ (F : Nat → Option (List Int)) m, m ≤ l.length → firstN (fun i => if i < l.length then F i else none) m = firstN F m := by
        intro F m
        induction m with
        | zero => intro _; rfl
        | succ m ih => intro hm; rw [firstN, firstN, ih (by omega), if_pos (by omega)]
      exact gen _ _ (Nat.le_refl _)
    rw [hsame] at key
    refine least_iff key fun x => ⟨?_, ?_⟩
    · rintro ⟨i, hi, _, v, js, h1, h2, h3, h4, h5, h6⟩
      refine ⟨(i : Int) :: js, by rw [h1, List.append_assoc]; rfl, by simp [h2], ⟨⟨by omega, by omega⟩, v, ?_, h4, h5⟩, h6⟩
      unfold tieA
      rw [Int.toNat_natCast]; exact h3
    · rintro ⟨js, h1, h2, h3, h4⟩
      cases js with
      | nil => simp at h2
      | cons j js =>
        obtain ⟨hj, v, h5, h6, h7⟩ := h3
        obtain ⟨i, rfl⟩ := Int.eq_ofNat_of_zero_le hj.1
        have hi : i < l.length := by have := hj.2; omega
        unfold tieA at h5
        rw [Int.toNat_natCast] at h5
        exact ⟨i, hi, hi, v, js, by rw [h1, List.append_assoc]; rfl, by simpa using h2, h5, h6, h7, h4⟩
/-- The rings of a size that are asked for. -/
def RingP (l : List S39) (one : Bool) (k : Nat) (x : List Int) : Prop := x.length = k ∧ Ringy l x ∧ askB one (feL l x) = true
theorem okX_iff {one : Bool} {x : List Int} (h3 : 3 ≤ x.length) : okX l one x ↔ Ringy l x ∧ askB one (feL l x) = true := by
  unfold okX
  rw [Bool.and_eq_true, isRing_iff h3]
  refine and_congr_right fun h => ?_
  rw [isRing_fe h3 ((isRing_iff h3).mpr h)]
theorem sizeR_least (hg : goodT l) (one : Bool) {k : Nat} (h3 : 3 ≤ k) : IsLeast (RingP l one k) (sizeR l one k) := by
  unfold sizeR
  rw [if_pos h3]
  have hst : ∀ i fr : Nat, IsLeast (fun x => ∃ js, x = [(i : Int)] ++ js ∧ js.length = k - 1 ∧ DT l fr (2 ^ fr) js ∧ okX l one x) (startR l one k i fr) := fun i fr => rg_least one (k - 1) [(i : Int)] fr (2 ^ fr)
  have hpair : ∀ i : Nat, IsLeast (fun x => (∃ js, x = [(i : Int)] ++ js ∧ js.length = k - 1 ∧ DT l (l.getD i z39).f0.toNat (2 ^ (l.getD i z39).f0.toNat) js ∧ okX l one x) ∨ ∃ js, x = [(i : Int)] ++ js ∧ js.length = k - 1 ∧ DT l (l.getD i z39).f1.toNat (2 ^ (l.getD i z39).f1.toNat) js ∧ okX l one x) (pairR l one k i) := fun i => least_pick (hst i _) (hst i _)
  refine least_iff (least_first hpair (fun i j x y hij hx hy => ?_) l.length) fun x => ⟨?_, ?_⟩
  · obtain ⟨js, rfl⟩ : ∃ js, x = (i : Int) :: js := by rcases hx with ⟨js, h, _⟩ | ⟨js, h, _⟩ <;> exact ⟨js, h⟩
    obtain ⟨js', rfl⟩ : ∃ js, y = (j : Int) :: js := by rcases hy with ⟨js, h, _⟩ | ⟨js, h, _⟩ <;> exact ⟨js, h⟩
    exact cmpL_lt (by omega) _ _
  · rintro ⟨i, _, h⟩
    rcases h with ⟨js, h1, h2, _, h4⟩ | ⟨js, h1, h2, _, h4⟩
    all_goals
      have hl : x.length = k := by rw [h1, List.length_append, List.length_singleton]; omega
      exact ⟨hl, (okX_iff (by omega)).mp h4⟩
  · rintro ⟨hl, hr, ha⟩
    obtain ⟨fr, hfr, hw⟩ := id hr
    cases x with
    | nil => simp at hl; omega
    | cons j js =>
      obtain ⟨hj, v, h5, h6, h7⟩ := hw
      have gj := tieA_good hg hj
      have hp := other_parts gj.1 gj.2.1 h5
      have hv := hasB_iff.mp hp.2.1
      obtain ⟨i, rfl⟩ := Int.eq_ofNat_of_zero_le hj.1
      have hi : i < l.length := by have := hj.2; omega
      rw [Nat.zero_or] at h7
      have hd := WT_DT js _ _ h7
      have hta : tieA l (i : Int) = l.getD i z39 := by unfold tieA; rw [Int.toNat_natCast]
      rw [hta] at hv gj
      have hok := (okX_iff (one := one) (x := (i : Int) :: js) (by rw [hl]; exact h3)).mpr ⟨hr, ha⟩
      have hjl : js.length = k - 1 := by rw [List.length_cons] at hl; omega
      refine ⟨i, hi, ?_⟩
      rcases hv with e | e
      · left
        have : (l.getD i z39).f0.toNat = v := by omega
        rw [this]
        exact ⟨js, rfl, hjl, hd, hok⟩
      · right
        have : (l.getD i z39).f1.toNat = v := by omega
        rw [this]
        exact ⟨js, rfl, hjl, hd, hok⟩

/-! ### the program -/
theorem toT_other {t : S39} (h0 : 0 ≤ t.f0) (h1 : t.f0 < t.f1) (a v : Nat) : otherN t a = some v ↔ hasB t a = true ∧ v = toT t a := by
  constructor
  · intro h
    have hp := other_parts h0 h1 h
    have ha := hasB_iff.mp hp.1
    have hv := hasB_iff.mp hp.2.1
    refine ⟨hp.1, ?_⟩
    unfold toT
    have := hp.2.2
    omega
  · rintro ⟨ha, rfl⟩
    have ha' := hasB_iff.mp ha
    refine other_has h1 ha (hasB_iff.mpr ?_) ?_ <;> unfold toT <;> omega
theorem onF_iff (hg : goodT l) (fr : Nat) : ∀ d now at_ met fe x g, (x, g) ∈ onF l fr d now at_ met fe ↔ ∃ js, x = now ++ js ∧ js.length = d ∧ PT l fr at_ met js ∧ g = fe + feL l js
  | 0, now, at_, met, fe, x, g => by
    rw [onF]
    constructor
    · intro h
      by_cases e : at_ = fr
      · rw [if_pos e] at h
        have := List.mem_singleton.mp h
        cases this
        exact ⟨[], by simp, rfl, e, rfl⟩
      · rw [if_neg e] at h; exact absurd h (by simp)
    · rintro ⟨js, h1, h2, h3, h4⟩
      obtain rfl := List.eq_nil_of_length_eq_zero h2
      rw [PT] at h3
      rw [if_pos h3, List.mem_singleton, h1, h4, List.append_nil]; rfl
  | d + 1, now, at_, met, fe, x, g => by
    rw [onF, List.mem_flatMap]
    constructor
    · rintro ⟨i, hi, h⟩
      rw [List.mem_range] at hi
      by_cases hgo : goesB (l.getD i z39) fr d at_ met = true
      · rw [if_pos hgo] at h
        obtain ⟨js, h1, h2, h3, h4⟩ := (onF_iff hg fr d _ _ _ _ x g).mp h
        have hin : inR l (i : Int) := ⟨by omega, by omega⟩
        have hta : tieA l (i : Int) = l.getD i z39 := by unfold tieA; rw [Int.toNat_natCast]
        have gi := tieA_good hg hin
        rw [hta] at gi
        unfold goesB at hgo
        rw [Bool.and_eq_true] at hgo
        refine ⟨(i : Int) :: js, by rw [h1, List.append_assoc]; rfl, by simp [h2], ⟨hin, toT (l.getD i z39) at_, ?_, ?_, h3⟩, ?_⟩
        · rw [hta, toT_other gi.1 gi.2.1]; exact ⟨hgo.1, rfl⟩
        · by_cases e : js = []
          · rw [if_pos e]
            have hd : d = 0 := by rw [← h2, e]; rfl
            rw [if_pos hd] at hgo
            exact of_decide_eq_true hgo.2
          · rw [if_neg e]
            have hd : d ≠ 0 := fun hd => e (List.eq_nil_of_length_eq_zero (h2.trans hd))
            rw [if_neg hd] at hgo
            simpa using hgo.2
        · rw [h4, feL, hta, Nat.add_assoc]
      · rw [if_neg hgo] at h; exact absurd h (by simp)
    · rintro ⟨js, h1, h2, h3, h4⟩
      cases js with
      | nil => simp at h2
      | cons j js =>
        obtain ⟨hj, v, h5, h6, h7⟩ := h3
        have gj := tieA_good hg hj
        obtain ⟨i, rfl⟩ := Int.eq_ofNat_of_zero_le hj.1
        have hi : i < l.length := by have := hj.2; omega
        have hta : tieA l (i : Int) = l.getD i z39 := by unfold tieA; rw [Int.toNat_natCast]
        rw [hta] at gj h5
        have ht := (toT_other gj.1 gj.2.1 at_ v).mp h5
        have hjl : js.length = d := by simpa using h2
        refine ⟨i, List.mem_range.mpr hi, ?_⟩
        have hgo : goesB (l.getD i z39) fr d at_ met = true := by
          unfold goesB
          rw [ht.1, Bool.true_and, ← ht.2]
          by_cases e : js = []
          · rw [if_pos e] at h6
            rw [if_pos (by rw [← hjl, e]; rfl)]
            exact decide_eq_true h6
          · rw [if_neg e] at h6
            rw [if_neg (fun hd => e (List.eq_nil_of_length_eq_zero (hjl.trans hd))), h6]; rfl
        rw [if_pos hgo, onF_iff hg fr d, ← ht.2]
        refine ⟨js, by rw [h1, List.append_assoc]; rfl, hjl, h7, ?_⟩
        rw [h4, feL, hta, Nat.add_assoc]
theorem fromF_iff (hg : goodT l) {i d fr : Nat} (hi : i < l.length) (hf : fr = (l.getD i z39).f0.toNat ∨ fr = (l.getD i z39).f1.toNat) (x : List Int) (g : Nat) : (x, g) ∈ fromF l d i fr ↔ ∃ js, x = (i : Int) :: js ∧ js.length = d ∧ WT l fr fr 0 x ∧ g = feL l x := by
  have hin : inR l (i : Int) := ⟨by omega, by omega⟩
  have hta : tieA l (i : Int) = l.getD i z39 := by unfold tieA; rw [Int.toNat_natCast]
  have gi := tieA_good hg hin
  rw [hta] at gi
  have hh : hasB (l.getD i z39) fr = true := hasB_iff.mpr (by omega)
  have ho := (toT_other gi.1 gi.2.1 fr _).mpr ⟨hh, rfl⟩
  have hne := (other_parts gi.1 gi.2.1 ho).2.2
  have hm : 2 ^ (l.getD i z39).f0.toNat ||| 2 ^ (l.getD i z39).f1.toNat = 2 ^ toT (l.getD i z39) fr ||| 2 ^ fr := by
    rcases hf with e | e
    · have : (l.getD i z39).f1.toNat = toT (l.getD i z39) fr := by unfold toT; omega
      rw [this, ← e, Nat.or_comm]
    · have : (l.getD i z39).f0.toNat = toT (l.getD i z39) fr := by unfold toT; omega
      rw [this, ← e]
  unfold fromF
  rw [hm, onF_iff hg]
  have hz : (2 ^ toT (l.getD i z39) fr).testBit fr = false := by
    rw [tb_two, beq_eq_false_iff_ne]; exact hne
  refine exists_congr fun js => ?_
  constructor
  · rintro ⟨h1, h2, h3, h4⟩
    refine ⟨h1, h2, ?_, ?_⟩
    · rw [h1]
      show WT l fr fr 0 ((i : Int) :: js)
      refine ⟨hin, _, by rw [hta]; exact ho, Nat.zero_testBit _, ?_⟩
      rw [Nat.zero_or]
      exact (WT_PT js _ _ hz).mpr h3
    · rw [h1, h4]
      show _ = feL l ((i : Int) :: js)
      rw [feL, hta]
  · rintro ⟨h1, h2, h3, h4⟩
    rw [h1] at h3
    obtain ⟨_, v, h5, _, h7⟩ := h3
    rw [hta, ho] at h5
    cases h5
    rw [Nat.zero_or] at h7
    refine ⟨h1, h2, (WT_PT js _ _ hz).mp h7, ?_⟩
    rw [h4, h1, feL, hta]
theorem ringsF_iff (hg : goodT l) (d : Nat) (x : List Int) (g : Nat) : (x, g) ∈ ringsF l d ↔ x.length = d + 1 ∧ Ringy l x ∧ g = feL l x := by
  unfold ringsF ringsK
  rw [List.mem_flatMap]
  constructor
  · rintro ⟨i, hi, h⟩
    rw [List.mem_range] at hi
    have hta : tieA l (i : Int) = l.getD i z39 := by unfold tieA; rw [Int.toNat_natCast]
    rcases List.mem_append.mp h with h | h
    · obtain ⟨js, h1, h2, h3, h4⟩ := (fromF_iff hg hi (Or.inl rfl) x g).mp h
      refine ⟨by rw [h1, List.length_cons, h2], ⟨_, Or.inl ?_, h3⟩, h4⟩
      rw [h1]; show _ = (tieA l (i : Int)).f0.toNat; rw [hta]
    · obtain ⟨js, h1, h2, h3, h4⟩ := (fromF_iff hg hi (Or.inr rfl) x g).mp h
      refine ⟨by rw [h1, List.length_cons, h2], ⟨_, Or.inr ?_, h3⟩, h4⟩
      rw [h1]; show _ = (tieA l (i : Int)).f1.toNat; rw [hta]
  · rintro ⟨hl, ⟨fr, hf, hw⟩, h4⟩
    cases x with
    | nil => simp at hl
    | cons j js =>
      have hj := hw.1
      obtain ⟨i, rfl⟩ := Int.eq_ofNat_of_zero_le hj.1
      have hi : i < l.length := by have := hj.2; omega
      have hta : tieA l (i : Int) = l.getD i z39 := by unfold tieA; rw [Int.toNat_natCast]
      have hf' : fr = (l.getD i z39).f0.toNat ∨ fr = (l.getD i z39).f1.toNat := by rw [← hta]; exact hf
      have hjl : js.length = d := by simpa using hl
      refine ⟨i, List.mem_range.mpr hi, List.mem_append.mpr ?_⟩
      rcases hf' with e | e
      · left
        rw [← e]
        exact (fromF_iff hg hi (Or.inl e) _ g).mpr ⟨js, rfl, hjl, hw, h4⟩
      · right
        rw [← e]
        exact (fromF_iff hg hi (Or.inr e) _ g).mpr ⟨js, rfl, hjl, hw, h4⟩
theorem foldB_least (p : Nat → Bool) : ∀ (V : List (List Int × Nat)) (s : Option (List Int)) (P : List Int → Prop), IsLeast P s → IsLeast (fun x => P x ∨ ∃ g, (x, g) ∈ V ∧ p g = true) (foldV (stepB p) s V)
  | [], s, P, h => least_iff h fun x => ⟨Or.inl, fun h => h.elim id fun ⟨_, h, _⟩ => absurd h (by simp)⟩
  | (now, fe) :: V, s, P, h => by
    have h1 : IsLeast (fun x => P x ∨ (x = now ∧ p fe = true)) (stepB p s now fe) := by
      unfold stepB
      by_cases hp : p fe = true
      · rw [hp, Bool.true_and]
        cases s with
        | none =>
          rw [if_pos rfl]
          exact ⟨Or.inr ⟨rfl, rfl⟩, fun x hx => hx.elim (fun hx => absurd hx (h x)) fun hx => by rw [hx.1, cmpL_self]; decide⟩
        | some b =>
          dsimp only
          by_cases hb : cmpL now b < 0
          · rw [if_pos (decide_eq_true hb)]
            exact ⟨Or.inr ⟨rfl, rfl⟩, fun x hx => hx.elim (fun hx => cmpL_trans _ _ _ (by omega) (h.2 x hx)) fun hx => by rw [hx.1, cmpL_self]; decide⟩
          · rw [if_neg (by simpa using hb)]
            have := cmpL_swap now b
            exact ⟨Or.inl h.1, fun x hx => hx.elim (h.2 x) fun hx => by rw [hx.1]; omega⟩
      · have hp' : p fe = false := by simpa using hp
        rw [hp', Bool.false_and, if_neg Bool.false_ne_true]
        exact least_iff h fun x => ⟨Or.inl, fun hx => hx.elim id fun hx => absurd hx.2 Bool.false_ne_true⟩
    have h2 := foldB_least p V _ _ h1
    refine least_iff h2 fun x => ⟨?_, ?_⟩
    · rintro ((h | ⟨rfl, h⟩) | ⟨g, h, hg⟩)
      · exact Or.inl h
      · exact Or.inr ⟨fe, List.mem_cons_self, h⟩
      · exact Or.inr ⟨g, List.mem_cons_of_mem _ h, hg⟩
    · rintro (h | ⟨g, h, hg⟩)
      · exact Or.inl (Or.inl h)
      · rcases List.mem_cons.mp h with e | e
        · cases e; exact Or.inl (Or.inr ⟨rfl, hg⟩)
        · exact Or.inr ⟨g, e, hg⟩
theorem bestN_least (hg : goodT l) (p : Nat → Bool) (one : Bool) (hp : ∀ g : Nat, p g = askB one (g : Int)) {k : Nat} (h3 : 3 ≤ k) : IsLeast (RingP l one k) (bestN p l k) := by
  unfold bestN
  refine least_iff (foldB_least p (ringsF l (k - 1)) none (fun _ => False) (fun _ h => h)) fun x => ⟨?_, ?_⟩
  · rintro (h | ⟨g, h, hg'⟩)
    · exact h.elim
    · obtain ⟨h1, h2, h4⟩ := (ringsF_iff hg _ x g).mp h
      refine ⟨by omega, h2, ?_⟩
      rw [← hp, ← h4]; exact hg'
  · rintro ⟨h1, h2, h4⟩
    exact Or.inr ⟨feL l x, (ringsF_iff hg _ x _).mpr ⟨by omega, h2, rfl⟩, by rw [hp]; exact h4⟩
theorem firstN_congr {α : Type} {F G : Nat → Option α} (h : ∀ i, F i = G i) (m : Nat) : firstN F m = firstN G m := by
  rw [show F = G from funext h]
theorem find_short (hg : goodT l) (p : Nat → Bool) (one : Bool) (hp : ∀ g : Nat, p g = askB one (g : Int)) (n : Nat) : findF p l n = shortR l one n := by
  unfold findF shortR
  refine firstN_congr (fun k => ?_) _
  unfold bestA
  by_cases h : 3 ≤ k
  · rw [if_pos h]
    exact least_one (bestN_least hg p one hp h) (sizeR_least hg one h) (fun x => Iff.rfl)
  · rw [if_neg h]; unfold sizeR; rw [if_neg h]
theorem ask_odd (g : Nat) : oddB g = askB false (g : Int) := by
  unfold oddB askB
  rw [if_neg Bool.false_ne_true, Int.tmod_eq_emod_of_nonneg (Int.natCast_nonneg _)]
  by_cases h : g % 2 = 1
  · rw [beq_iff_eq.mpr h, beq_iff_eq.mpr (by omega)]
  · rw [beq_eq_false_iff_ne.mpr h, beq_eq_false_iff_ne.mpr (by omega)]
theorem ask_one (g : Nat) : oneB g = askB true (g : Int) := by
  unfold oneB askB
  rw [if_pos rfl]
  by_cases h : g = 1
  · rw [beq_iff_eq.mpr h, beq_iff_eq.mpr (by omega)]
  · rw [beq_eq_false_iff_ne.mpr h, beq_eq_false_iff_ne.mpr (by omega)]
end
end Go.Proofs.Ytaegldcifhgnmaa.B

/- The reference's rings as they are judged, as the kit's print writes them. -/
namespace Go.Proofs.Ytaegldcifhgnmaa.B
open Go.Proofs.Ytaegldcifhgnmaa.A
open Go.RowKit Go.Proofs.YtaegldcifhgnmaaW.PrintWords Go.Proofs.YtaegldcifhgnmaaW.PrintLast Go.Proofs.YtaegldcifhgnmaaW.PrintMore
section
attribute [local go_sem] max2_int min2_int max_two min_two max_three min_three max_four min_four   -- for this text's walks alone
set_option linter.unusedVariables false
set_option linter.unusedSimpArgs false
/-! ### drovewayref09_Less: function 41 -/
mutual
def drovewayref09_Less.l0 : Nat → List Int → List Int → Int → Option (Bool)
  | 0, _, _, _ => none
  | k + 1, x0, x1, x5 => if x5 < (x0.length : Int) then (drovewayref09_Less.j1 k x0 x1 x5 (decide (x5 < (x1.length : Int)))) else (drovewayref09_Less.j1 k x0 x1 x5 false)
def drovewayref09_Less.j1 : Nat → List Int → List Int → Int → Bool → Option (Bool)
  | 0, _, _, _, _ => none
  | k + 1, x0, x1, x5, x15 => if x15 = true then (if 0 ≤ x5 then (if x5 < (x0.length : Int) then (if x5 < (x1.length : Int) then (if (rd x0 x5) = (rd x1 x5) then (drovewayref09_Less.l0 k x0 x1 (wrap64 (x5 + 1))) else (some (decide ((rd x0 x5) < (rd x1 x5))))) else (none)) else (none)) else (none)) else (some (decide ((x0.length : Int) < (x1.length : Int))))
end
def drovewayref09_Less.f (k : Nat) (l0 : List Int) (l1 : List Int) : Option (Bool) := drovewayref09_Less.l0 k l0 l1 0
theorem drovewayref09_Less.mono_l : ∀ k, (∀ y0 y1 y2, LeO (drovewayref09_Less.l0 k y0 y1 y2) (drovewayref09_Less.l0 (k + 1) y0 y1 y2)) ∧ (∀ y0 y1 y2 y3, LeO (drovewayref09_Less.j1 k y0 y1 y2 y3) (drovewayref09_Less.j1 (k + 1) y0 y1 y2 y3))
  | 0 => ⟨fun _ _ _ r h => by simp [drovewayref09_Less.l0] at h, fun _ _ _ _ r h => by simp [drovewayref09_Less.j1] at h⟩
  | k + 1 => by
    obtain ⟨ih0, ih1⟩ := drovewayref09_Less.mono_l k
    refine ⟨?_, ?_⟩
    · intro y0 y1 y2
      unfold drovewayref09_Less.l0
      repeat' first
      | (with_reducible exact ih0 _ _ _)
      | (with_reducible exact ih1 _ _ _ _)
      | (with_reducible exact LeO.refl _)
      | (with_reducible exact LeO.none _)
      | (with_reducible refine LeO.ite ?_ ?_)
      | (with_reducible refine LeO.bind ?_ (fun _ => ?_))
      | exact ih0 _ _ _
      | exact ih1 _ _ _ _
      | exact LeO.none _
      | refine LeO.ite ?_ ?_
      | refine LeO.bind ?_ (fun _ => ?_)
    · intro y0 y1 y2 y3
      unfold drovewayref09_Less.j1
      repeat' first
      | (with_reducible exact ih0 _ _ _)
      | (with_reducible exact ih1 _ _ _ _)
      | (with_reducible exact LeO.refl _)
      | (with_reducible exact LeO.none _)
      | (with_reducible refine LeO.ite ?_ ?_)
      | (with_reducible refine LeO.bind ?_ (fun _ => ?_))
      | exact ih0 _ _ _
      | exact ih1 _ _ _ _
      | exact LeO.none _
      | refine LeO.ite ?_ ?_
      | refine LeO.bind ?_ (fun _ => ?_)
theorem drovewayref09_Less.mono : ∀ a0 a1 k, LeO (drovewayref09_Less.f k a0 a1) (drovewayref09_Less.f (k + 1) a0 a1) := by
  intro a0 a1 k
  obtain ⟨ih0, ih1⟩ := drovewayref09_Less.mono_l k
  unfold drovewayref09_Less.f
  repeat' first
      | (with_reducible exact ih0 _ _ _)
      | (with_reducible exact ih1 _ _ _ _)
      | (with_reducible exact LeO.refl _)
      | (with_reducible exact LeO.none _)
      | (with_reducible refine LeO.ite ?_ ?_)
      | (with_reducible refine LeO.bind ?_ (fun _ => ?_))
      | exact ih0 _ _ _
      | exact ih1 _ _ _ _
      | exact LeO.none _
      | refine LeO.ite ?_ ?_
      | refine LeO.bind ?_ (fun _ => ?_)
set_option maxHeartbeats 8000000 in
set_option maxRecDepth 100000 in
theorem drovewayref09_Less.calls (k : Nat) (A0 : Option Addr) (c0 : Nat) (l0 : List Int) (A1 : Option Addr) (c1 : Nat) (l1 : List Int) (r : Bool) (w : World) (hr0 : Kd.C (Kd.int .i64) w A0 l0.length l0) (hc0 : l0.length ≤ c0) (hr1 : Kd.C (Kd.int .i64) w A1 l1.length l1) (hc1 : l1.length ≤ c1) (h : drovewayref09_Less.f k l0 l1 = some r) :
    Calls Try.prog 41 #[.slice A0 l0.length c0, .slice A1 l1.length c1] w fun e w' => e = .returned (.bool r) ∧ Drawn0 w w' := by
  have HR0 := Aside0.mk hr0
  have HC0 := Aside0.mk hc0
  clear hr0 hc0
  have HR1 := Aside0.mk hr1
  have HC1 := Aside0.mk hc1
  clear hr1 hc1
  have H : (drovewayref09_Less.l0 k l0 l1 0) = some r := h
  clear h
  have H' := Aside0.mk H
  clear H
  go_enter Try.func41, Try.ntmps41
  go_wp2
  repeat (go_quiet (fail); try go_wp2)
  go_loopg [5] k (fun kq v5 w' => ∃ (x5_1 : Int), v5 = .int .i64 x5_1 ∧ Aside0 (drovewayref09_Less.l0 kq l0 l1 x5_1 = some r) ∧ Aside0 (kq ≤ k) ∧ Drawn0 w w')
  case atStart => exact ⟨(0), (by first | rfl | (simp; done) | (simp [*]; done)), H', ⟨Nat.le_refl _⟩, by repeat (first | exact Drawn0.refl _ | apply Drawn0.step)⟩
  case round =>
    clear H'
    try clear c1
    try clear p2
    obtain ⟨x5_1, rfl, HA, HK1, ⟨m1, rfl⟩⟩ := hrel
    cases gk with
    | zero => exact absurd HA.out (by simp [drovewayref09_Less.l0])
    | succ k1 =>
      have H := HA.out
      clear HA
      simp only [drovewayref09_Less.l0] at H
      have HC3 := Aside0.mk H
      clear H
      go_upto_region 2 with (fail)
      repeat (go_quiet (fail); go_upto_region 2 with (fail))
      go_cut [15] (fun v15 wc => ∃ (kq : Nat) (x15_2 : Bool), v15 = .bool x15_2 ∧ Aside0 (drovewayref09_Less.j1 kq l0 l1 x5_1 x15_2 = some r) ∧ Aside0 (kq ≤ k1) ∧ Drawn0 w wc)
      case first =>
        have H := HC3.out
        clear HC3
        by_cases c4 : x5_1 < (l0.length : Int)
        · rw [if_pos c4] at H
          have c4b0 : decide (x5_1 < (l0.length : Int)) = true := decide_eq_true c4
          clear c4
          (first | rw [c4b0] | (simp only [i64_w, i32_w]; rw [c4b0]) | skip)
          have H' := Aside0.mk H
          clear H
          go_wp2
          repeat (go_quiet (fail); try go_wp2)
          go_meet
          case rel => exact ⟨_, (decide (x5_1 < (l1.length : Int))), (by first | rfl | (simp; done) | (simp [*]; done)), H', ⟨by have := HK1.out; first | omega | exact Nat.le_refl _⟩, by repeat (first | exact Drawn0.refl _ | apply Drawn0.step)⟩
        · rw [if_neg c4] at H
          have c4b0 : decide (x5_1 < (l0.length : Int)) = false := decide_eq_false c4
          clear c4
          (first | rw [c4b0] | (simp only [i64_w, i32_w]; rw [c4b0]) | skip)
          have H' := Aside0.mk H
          clear H
          go_wp2
          repeat (go_quiet (fail); try go_wp2)
          go_meet
          case rel => exact ⟨_, (false), (by first | rfl | (simp; done) | (simp [*]; done)), H', ⟨by have := HK1.out; first | omega | exact Nat.le_refl _⟩, by repeat (first | exact Drawn0.refl _ | apply Drawn0.step)⟩
      case rest =>
        clear HC3
        try clear c1
        try clear p2
        try clear c4
        try clear c4b0
        try clear p2
        obtain ⟨kq, x15_2, rfl, HA, HJ2, ⟨mc2, rfl⟩⟩ := hcut
        cases kq with
        | zero => exact absurd HA.out (by simp [drovewayref09_Less.j1])
        | succ kj2 =>
          have H := HA.out
          clear HA
          simp only [drovewayref09_Less.j1] at H
          by_cases c5 : x15_2 = true
          · subst c5
            have H1 : (if 0 ≤ x5_1 then (if x5_1 < (l0.length : Int) then (if x5_1 < (l1.length : Int) then (if (rd l0 x5_1) = (rd l1 x5_1) then (drovewayref09_Less.l0 kj2 l0 l1 (wrap64 (x5_1 + 1))) else (some (decide ((rd l0 x5_1) < (rd l1 x5_1))))) else (none)) else (none)) else (none)) = some r := by rw [if_pos rfl] at H; exact H
            clear H
            have H := H1
            clear H1
            by_cases c6 : 0 ≤ x5_1
            · rw [if_pos c6] at H
              have c6b0 : decide (0 ≤ x5_1) = true := decide_eq_true c6
              clear c6
              by_cases c7 : x5_1 < (l0.length : Int)
              · rw [if_pos c7] at H
                have c7b0 : decide (x5_1 < (l0.length : Int)) = true := decide_eq_true c7
                clear c7
                by_cases c8 : x5_1 < (l1.length : Int)
                · rw [if_pos c8] at H
                  have c8b0 : decide (x5_1 < (l1.length : Int)) = true := decide_eq_true c8
                  clear c8
                  by_cases c9 : (rd l0 x5_1) = (rd l1 x5_1)
                  · rw [if_pos c9] at H
                    have c9b0 : ((rd l0 x5_1) == (rd l1 x5_1)) = true := beq_iff_eq.mpr c9
                    have c9b1 : ((rd l0 x5_1) != (rd l1 x5_1)) = false := bne_eq_false_iff_eq.mpr c9
                    clear c9
                    have H' := Aside0.mk H
                    clear H
                    have p174 : 0 ≤ (x5_1 : Int) := of_decide_eq_true (by first | (with_reducible assumption) | assumption)
                    have q174 : x5_1 < (l0.length : Int) := of_decide_eq_true (by first | (with_reducible assumption) | assumption)
                    obtain ⟨ad174, e174, hx174_0⟩ := Kd.at_int HR0.out x5_1 p174 q174
                    cases e174
                    replace p174 := eq_true p174
                    replace q174 := eq_true q174
                    have p175 : 0 ≤ (x5_1 : Int) := of_decide_eq_true (by first | (with_reducible assumption) | assumption)
                    have q175 : x5_1 < (l1.length : Int) := of_decide_eq_true (by first | (with_reducible assumption) | assumption)
                    obtain ⟨ad175, e175, hx175_0⟩ := Kd.at_int HR1.out x5_1 p175 q175
                    cases e175
                    replace p175 := eq_true p175
                    replace q175 := eq_true q175
                    go_wp2
                    repeat (go_quiet (fail); try go_wp2)
                    go_roundg kj2
                    case measure => have := HK1.out; have := HJ2.out; omega
                    case rel => exact ⟨(wrap64 (x5_1 + 1)), (by first | rfl | (simp; done) | (simp [*]; done)), H', ⟨by have := HK1.out; have := HJ2.out; omega⟩, by repeat (first | exact Drawn0.refl _ | apply Drawn0.step)⟩
                  · rw [if_neg c9] at H
                    have c9b0 : ((rd l0 x5_1) == (rd l1 x5_1)) = false := beq_eq_false_iff_ne.mpr c9
                    have c9b1 : ((rd l0 x5_1) != (rd l1 x5_1)) = true := bne_iff_ne.mpr c9
                    obtain rfl := Option.some.inj H
                    have p174 : 0 ≤ (x5_1 : Int) := of_decide_eq_true (by first | (with_reducible assumption) | assumption)
                    have q174 : x5_1 < (l0.length : Int) := of_decide_eq_true (by first | (with_reducible assumption) | assumption)
                    obtain ⟨ad174, e174, hx174_0⟩ := Kd.at_int HR0.out x5_1 p174 q174
                    cases e174
                    replace p174 := eq_true p174
                    replace q174 := eq_true q174
                    have p175 : 0 ≤ (x5_1 : Int) := of_decide_eq_true (by first | (with_reducible assumption) | assumption)
                    have q175 : x5_1 < (l1.length : Int) := of_decide_eq_true (by first | (with_reducible assumption) | assumption)
                    obtain ⟨ad175, e175, hx175_0⟩ := Kd.at_int HR1.out x5_1 p175 q175
                    cases e175
                    replace p175 := eq_true p175
                    replace q175 := eq_true q175
                    have p176 : 0 ≤ (x5_1 : Int) := of_decide_eq_true (by first | (with_reducible assumption) | assumption)
                    have q176 : x5_1 < (l0.length : Int) := of_decide_eq_true (by first | (with_reducible assumption) | assumption)
                    obtain ⟨ad176, e176, hx176_0⟩ := Kd.at_int HR0.out x5_1 p176 q176
                    obtain rfl : ad174 = ad176 := (by injection e176)
                    replace p176 := eq_true p176
                    replace q176 := eq_true q176
                    have p177 : 0 ≤ (x5_1 : Int) := of_decide_eq_true (by first | (with_reducible assumption) | assumption)
                    have q177 : x5_1 < (l1.length : Int) := of_decide_eq_true (by first | (with_reducible assumption) | assumption)
                    obtain ⟨ad177, e177, hx177_0⟩ := Kd.at_int HR1.out x5_1 p177 q177
                    obtain rfl : ad175 = ad177 := (by injection e177)
                    replace p177 := eq_true p177
                    replace q177 := eq_true q177
                    go_wp2
                    repeat (go_quiet (fail); try go_wp2)
                    go_ret
                    exact ⟨by first | rfl | (simp; done) | (simp [*]; done), by repeat (first | exact Drawn0.refl _ | apply Drawn0.step)⟩
                · rw [if_neg c8] at H
                  exact absurd H (by simp)
              · rw [if_neg c7] at H
                exact absurd H (by simp)
            · rw [if_neg c6] at H
              exact absurd H (by simp)
          · replace c5 := Bool.eq_false_iff.mpr c5
            subst c5
            have H1 : (some (decide ((l0.length : Int) < (l1.length : Int)))) = some r := by rw [if_neg (show ¬ (false = true) by decide)] at H; exact H
            clear H
            have H := H1
            clear H1
            obtain rfl := Option.some.inj H
            go_wp2
            repeat (go_quiet (fail); try go_wp2)
            go_ret
            exact ⟨by first | rfl | (simp; done) | (simp [*]; done), by repeat (first | exact Drawn0.refl _ | apply Drawn0.step)⟩


end
end Go.Proofs.Ytaegldcifhgnmaa.B

/- The reference's rings as they are judged, as the kit's print writes them. -/
namespace Go.Proofs.Ytaegldcifhgnmaa.B
open Go.Proofs.Ytaegldcifhgnmaa.A
open Go.RowKit Go.Proofs.YtaegldcifhgnmaaW.PrintWords Go.Proofs.YtaegldcifhgnmaaW.PrintLast Go.Proofs.YtaegldcifhgnmaaW.PrintMore
section
attribute [local go_sem] max2_int min2_int max_two min_two max_three min_three max_four min_four   -- for this text's walks alone
set_option linter.unusedVariables false
set_option linter.unusedSimpArgs false
/-! ### drovewayref09_other: function 88 -/
def drovewayref09_other.f (a0_0 : Int) (a0_1 : Int) (a0_2 : Bool) (a1 : Int) : Option (Int) := if a0_0 = a1 then (some a0_1) else (if a0_1 = a1 then (some a0_0) else (some (-1)))
set_option maxHeartbeats 8000000 in
set_option maxRecDepth 100000 in
theorem drovewayref09_other.calls (a0_0 : Int) (a0_1 : Int) (a0_2 : Bool) (a1 : Int) (r : Int) (w : World) (h : drovewayref09_other.f a0_0 a0_1 a0_2 a1 = some r) :
    Calls Try.prog 88 #[.agg #[.int .i64 a0_0, .int .i64 a0_1, .bool a0_2], .int .i64 a1] w fun e w' => e = .returned (.int .i64 r) ∧ Below w.heap.size w w' := by
  have hu39 := Try.underlying39
  have HB := Aside0.mk (Below.refl w.heap.size w)
  have H : (if a0_0 = a1 then (some a0_1) else (if a0_1 = a1 then (some a0_0) else (some (-1)))) = some r := h
  clear h
  by_cases c3 : a0_0 = a1
  · rw [if_pos c3] at H
    have c3b0 : (a0_0 == a1) = true := beq_iff_eq.mpr c3
    have c3b1 : (a0_0 != a1) = false := bne_eq_false_iff_eq.mpr c3
    clear c3
    obtain rfl := Option.some.inj H
    go_enter Try.func88, Try.ntmps88
    go_wp2_with (first | ((with_reducible refine gate_dst (N := 2) rfl ?_); refine box_event ?hg (N := 2) ?hd (cs := #[.int .i64 a0_0, .int .i64 a0_1, .bool a0_2]) (t := 39) ?hr ?_; (case hd => rfl); (case hg => rfl); (case hr => first | (go_simp; done) | (go_simp; rfl)); intro gb178 hg w4 hbox hb; have n0_ := Aside0.mk (below_step (by repeat (first | (with_reducible first | exact HB.out | apply below_alloc | apply pw_below_drewN | apply below_drew1) | exact HB.out)) hb); have n1_ := Aside0.mk (hbox); have n2_ := Aside0.mk ((by rw [hg]; exact (below_size (by repeat (first | (with_reducible first | exact HB.out | apply below_alloc | apply pw_below_drewN | apply below_drew1) | exact HB.out))) : w.heap.size ≤ gb178)); have n3_ := Aside0.mk ((by rw [hg]; exact (below_size (by repeat (first | (with_reducible first | exact HB.out | apply below_alloc | apply pw_below_drewN | apply below_drew1) | exact HB.out))) : w.heap.size ≤ gb178)); clear HB; have HB := n0_; have BK178 := n1_; have GW178 := n2_; have GE178 := n3_; clear n0_ n1_ n2_ n3_; clear hb hbox hg; have hcz5_0 : w4.cell? ⟨gb178, 0, none⟩ = some (.int .i64 a0_0) := (blk_cell BK178.out 0).trans rfl; have hcz5_1 : w4.cell? ⟨gb178, 1, none⟩ = some (.int .i64 a0_1) := (blk_cell BK178.out 1).trans rfl; have hcz5_2 : w4.cell? ⟨gb178, 2, none⟩ = some (.bool a0_2) := (blk_cell BK178.out 2).trans rfl; have hfz5_0 := blk_frozen BK178.out 0; have hfz5_1 := blk_frozen BK178.out 1; have hfz5_2 := blk_frozen BK178.out 2))
    go_ret
    exact ⟨by first | rfl | (simp [errW_none, errW_some] <;> rfl) | (simp [*, errW_none, errW_some] <;> rfl), by repeat (first | (with_reducible first | exact HB.out | apply below_alloc | apply pw_below_drewN | apply below_drew1 | refine below_set ?_ GE178.out) | exact HB.out)⟩
  · rw [if_neg c3] at H
    have c3b0 : (a0_0 == a1) = false := beq_eq_false_iff_ne.mpr c3
    have c3b1 : (a0_0 != a1) = true := bne_iff_ne.mpr c3
    by_cases c6 : a0_1 = a1
    · rw [if_pos c6] at H
      have c6b0 : (a0_1 == a1) = true := beq_iff_eq.mpr c6
      have c6b1 : (a0_1 != a1) = false := bne_eq_false_iff_eq.mpr c6
      clear c6
      obtain rfl := Option.some.inj H
      go_enter Try.func88, Try.ntmps88
      go_wp2_with (first | ((with_reducible refine gate_dst (N := 2) rfl ?_); refine box_event ?hg (N := 2) ?hd (cs := #[.int .i64 a0_0, .int .i64 a0_1, .bool a0_2]) (t := 39) ?hr ?_; (case hd => rfl); (case hg => rfl); (case hr => first | (go_simp; done) | (go_simp; rfl)); intro gb178 hg w7 hbox hb; have n0_ := Aside0.mk (below_step (by repeat (first | (with_reducible first | exact HB.out | apply below_alloc | apply pw_below_drewN | apply below_drew1) | exact HB.out)) hb); have n1_ := Aside0.mk (hbox); have n2_ := Aside0.mk ((by rw [hg]; exact (below_size (by repeat (first | (with_reducible first | exact HB.out | apply below_alloc | apply pw_below_drewN | apply below_drew1) | exact HB.out))) : w.heap.size ≤ gb178)); have n3_ := Aside0.mk ((by rw [hg]; exact (below_size (by repeat (first | (with_reducible first | exact HB.out | apply below_alloc | apply pw_below_drewN | apply below_drew1) | exact HB.out))) : w.heap.size ≤ gb178)); clear HB; have HB := n0_; have BK178 := n1_; have GW178 := n2_; have GE178 := n3_; clear n0_ n1_ n2_ n3_; clear hb hbox hg; have hcz8_0 : w7.cell? ⟨gb178, 0, none⟩ = some (.int .i64 a0_0) := (blk_cell BK178.out 0).trans rfl; have hcz8_1 : w7.cell? ⟨gb178, 1, none⟩ = some (.int .i64 a0_1) := (blk_cell BK178.out 1).trans rfl; have hcz8_2 : w7.cell? ⟨gb178, 2, none⟩ = some (.bool a0_2) := (blk_cell BK178.out 2).trans rfl; have hfz8_0 := blk_frozen BK178.out 0; have hfz8_1 := blk_frozen BK178.out 1; have hfz8_2 := blk_frozen BK178.out 2))
      go_ret
      exact ⟨by first | rfl | (simp [errW_none, errW_some] <;> rfl) | (simp [*, errW_none, errW_some] <;> rfl), by repeat (first | (with_reducible first | exact HB.out | apply below_alloc | apply pw_below_drewN | apply below_drew1 | refine below_set ?_ GE178.out) | exact HB.out)⟩
    · rw [if_neg c6] at H
      have c6b0 : (a0_1 == a1) = false := beq_eq_false_iff_ne.mpr c6
      have c6b1 : (a0_1 != a1) = true := bne_iff_ne.mpr c6
      obtain rfl := Option.some.inj H
      go_enter Try.func88, Try.ntmps88
      go_wp2_with (first | ((with_reducible refine gate_dst (N := 2) rfl ?_); refine box_event ?hg (N := 2) ?hd (cs := #[.int .i64 a0_0, .int .i64 a0_1, .bool a0_2]) (t := 39) ?hr ?_; (case hd => rfl); (case hg => rfl); (case hr => first | (go_simp; done) | (go_simp; rfl)); intro gb178 hg w9 hbox hb; have n0_ := Aside0.mk (below_step (by repeat (first | (with_reducible first | exact HB.out | apply below_alloc | apply pw_below_drewN | apply below_drew1) | exact HB.out)) hb); have n1_ := Aside0.mk (hbox); have n2_ := Aside0.mk ((by rw [hg]; exact (below_size (by repeat (first | (with_reducible first | exact HB.out | apply below_alloc | apply pw_below_drewN | apply below_drew1) | exact HB.out))) : w.heap.size ≤ gb178)); have n3_ := Aside0.mk ((by rw [hg]; exact (below_size (by repeat (first | (with_reducible first | exact HB.out | apply below_alloc | apply pw_below_drewN | apply below_drew1) | exact HB.out))) : w.heap.size ≤ gb178)); clear HB; have HB := n0_; have BK178 := n1_; have GW178 := n2_; have GE178 := n3_; clear n0_ n1_ n2_ n3_; clear hb hbox hg; have hcz10_0 : w9.cell? ⟨gb178, 0, none⟩ = some (.int .i64 a0_0) := (blk_cell BK178.out 0).trans rfl; have hcz10_1 : w9.cell? ⟨gb178, 1, none⟩ = some (.int .i64 a0_1) := (blk_cell BK178.out 1).trans rfl; have hcz10_2 : w9.cell? ⟨gb178, 2, none⟩ = some (.bool a0_2) := (blk_cell BK178.out 2).trans rfl; have hfz10_0 := blk_frozen BK178.out 0; have hfz10_1 := blk_frozen BK178.out 1; have hfz10_2 := blk_frozen BK178.out 2))
      go_ret
      exact ⟨by first | rfl | (simp [errW_none, errW_some] <;> rfl) | (simp [*, errW_none, errW_some] <;> rfl), by repeat (first | (with_reducible first | exact HB.out | apply below_alloc | apply pw_below_drewN | apply below_drew1 | refine below_set ?_ GE178.out) | exact HB.out)⟩

/-! ### drovewayref09_walked: function 81 -/
mutual
def drovewayref09_walked.l0 : Nat → List (S39) → List Int → Int → Int → Int → Int → Int → Option (Int × Bool)
  | 0, _, _, _, _, _, _, _ => none
  | k + 1, x0, x1, x2, x8, x9, x10, x11 => if x11 < (x1.length : Int) then (if 0 ≤ x11 then (if 0 ≤ (rd x1 x11) then (if (rd x1 x11) < (x0.length : Int) then ((drovewayref09_other.f ((rd_T39 x0 (rd x1 x11)).f0) ((rd_T39 x0 (rd x1 x11)).f1) ((rd_T39 x0 (rd x1 x11)).f2) x8).bind fun t181 => (if t181 < 0 then (drovewayref09_walked.j1 k x0 x1 x2 x9 x10 x11 t181 true) else (if 0 ≤ t181 then (drovewayref09_walked.j1 k x0 x1 x2 x9 x10 x11 t181 ((Int.tmod (shr .i64 x9 t181) 2) == 1)) else (none)))) else (none)) else (none)) else (none)) else (some (x10, (x8 == x2)))
def drovewayref09_walked.j1 : Nat → List (S39) → List Int → Int → Int → Int → Int → Int → Bool → Option (Int × Bool)
  | 0, _, _, _, _, _, _, _, _ => none
  | k + 1, x0, x1, x2, x9, x10, x11, x12, x37 => if x37 = true then (some (0, false)) else (if 0 ≤ x12 then (if 0 ≤ x11 then (if x11 < (x1.length : Int) then (if 0 ≤ (rd x1 x11) then (if (rd x1 x11) < (x0.length : Int) then (if (rd_T39 x0 (rd x1 x11)).f2 = true then (drovewayref09_walked.l0 k x0 x1 x2 x12 (wrap64 (x9 + (shl .i64 1 x12))) (wrap64 (x10 + 1)) (wrap64 (x11 + 1))) else (drovewayref09_walked.l0 k x0 x1 x2 x12 (wrap64 (x9 + (shl .i64 1 x12))) x10 (wrap64 (x11 + 1)))) else (none)) else (none)) else (none)) else (none)) else (none))
end
def drovewayref09_walked.f (k : Nat) (l0 : List (S39)) (l1 : List Int) (a2 : Int) : Option (Int × Bool) := drovewayref09_walked.l0 k l0 l1 a2 a2 0 0 0
theorem drovewayref09_walked.mono_l : ∀ k, (∀ y0 y1 y2 y3 y4 y5 y6, LeO (drovewayref09_walked.l0 k y0 y1 y2 y3 y4 y5 y6) (drovewayref09_walked.l0 (k + 1) y0 y1 y2 y3 y4 y5 y6)) ∧ (∀ y0 y1 y2 y3 y4 y5 y6 y7, LeO (drovewayref09_walked.j1 k y0 y1 y2 y3 y4 y5 y6 y7) (drovewayref09_walked.j1 (k + 1) y0 y1 y2 y3 y4 y5 y6 y7))
  | 0 => ⟨fun _ _ _ _ _ _ _ r h => by simp [drovewayref09_walked.l0] at h, fun _ _ _ _ _ _ _ _ r h => by simp [drovewayref09_walked.j1] at h⟩
  | k + 1 => by
    obtain ⟨ih0, ih1⟩ := drovewayref09_walked.mono_l k
    refine ⟨?_, ?_⟩
    · intro y0 y1 y2 y3 y4 y5 y6
      unfold drovewayref09_walked.l0
      repeat' first
      | (with_reducible exact ih0 _ _ _ _ _ _ _)
      | (with_reducible exact ih1 _ _ _ _ _ _ _ _)
      | (with_reducible exact LeO.refl _)
      | (with_reducible exact LeO.none _)
      | (with_reducible refine LeO.ite ?_ ?_)
      | (with_reducible refine LeO.bind ?_ (fun _ => ?_))
      | exact ih0 _ _ _ _ _ _ _
      | exact ih1 _ _ _ _ _ _ _ _
      | exact LeO.none _
      | refine LeO.ite ?_ ?_
      | refine LeO.bind ?_ (fun _ => ?_)
    · intro y0 y1 y2 y3 y4 y5 y6 y7
      unfold drovewayref09_walked.j1
      repeat' first
      | (with_reducible exact ih0 _ _ _ _ _ _ _)
      | (with_reducible exact ih1 _ _ _ _ _ _ _ _)
      | (with_reducible exact LeO.refl _)
      | (with_reducible exact LeO.none _)
      | (with_reducible refine LeO.ite ?_ ?_)
      | (with_reducible refine LeO.bind ?_ (fun _ => ?_))
      | exact ih0 _ _ _ _ _ _ _
      | exact ih1 _ _ _ _ _ _ _ _
      | exact LeO.none _
      | refine LeO.ite ?_ ?_
      | refine LeO.bind ?_ (fun _ => ?_)
theorem drovewayref09_walked.mono : ∀ a0 a1 a2 k, LeO (drovewayref09_walked.f k a0 a1 a2) (drovewayref09_walked.f (k + 1) a0 a1 a2) := by
  intro a0 a1 a2 k
  obtain ⟨ih0, ih1⟩ := drovewayref09_walked.mono_l k
  unfold drovewayref09_walked.f
  repeat' first
      | (with_reducible exact ih0 _ _ _ _ _ _ _)
      | (with_reducible exact ih1 _ _ _ _ _ _ _ _)
      | (with_reducible exact LeO.refl _)
      | (with_reducible exact LeO.none _)
      | (with_reducible refine LeO.ite ?_ ?_)
      | (with_reducible refine LeO.bind ?_ (fun _ => ?_))
      | exact ih0 _ _ _ _ _ _ _
      | exact ih1 _ _ _ _ _ _ _ _
      | exact LeO.none _
      | refine LeO.ite ?_ ?_
      | refine LeO.bind ?_ (fun _ => ?_)
set_option maxHeartbeats 8000000 in
set_option maxRecDepth 100000 in
theorem drovewayref09_walked.calls (k : Nat) (A0 : Option Addr) (c0 : Nat) (l0 : List (S39)) (A1 : Option Addr) (c1 : Nat) (l1 : List Int) (a2 : Int) (r1 : Int) (r2 : Bool) (w : World) (hr0 : Kd.C k39 w A0 l0.length l0) (hc0 : l0.length ≤ c0) (hr1 : Kd.C (Kd.int .i64) w A1 l1.length l1) (hc1 : l1.length ≤ c1) (h : drovewayref09_walked.f k l0 l1 a2 = some (r1, r2)) :
    Calls Try.prog 81 #[.slice A0 l0.length c0, .slice A1 l1.length c1, .int .i64 a2] w fun e w' => e = .returned (.tuple #[.int .i64 r1, .bool r2]) ∧ Below w.heap.size w w' := by
  have hu39 := Try.underlying39
  have HR0 := Aside0.mk hr0
  have HC0 := Aside0.mk hc0
  clear hr0 hc0
  have HR1 := Aside0.mk hr1
  have HC1 := Aside0.mk hc1
  clear hr1 hc1
  have HB := Aside0.mk (Below.refl w.heap.size w)
  have H : (drovewayref09_walked.l0 k l0 l1 a2 a2 0 0 0) = some (r1, r2) := h
  clear h
  have H' := Aside0.mk H
  clear H
  go_enter Try.func81, Try.ntmps81
  go_wp2
  go_loopg [8, 9, 10, 11] k (fun kq v8 v9 v10 v11 w' => ∃ (x8_1 : Int) (x9_1 : Int) (x10_1 : Int) (x11_1 : Int), v8 = .int .i64 x8_1 ∧ v9 = .int .i64 x9_1 ∧ v10 = .int .i64 x10_1 ∧ v11 = .int .i64 x11_1 ∧ Aside0 (drovewayref09_walked.l0 kq l0 l1 a2 x8_1 x9_1 x10_1 x11_1 = some (r1, r2)) ∧ Aside0 (kq ≤ k) ∧ Aside0 (Below w.heap.size w w'))
  case atStart => exact ⟨(a2), (0), (0), (0), (by first | rfl | (simp; done) | (simp [*]; done)), (by first | rfl | (simp; done) | (simp [*]; done)), (by first | rfl | (simp; done) | (simp [*]; done)), (by first | rfl | (simp; done) | (simp [*]; done)), H', ⟨Nat.le_refl _⟩, ⟨by repeat (first | (with_reducible first | exact HB.out | apply below_alloc | apply pw_below_drewN | apply below_drew1) | exact HB.out)⟩⟩
  case round =>
    clear H'
    try clear c1
    try clear p2
    obtain ⟨x8_1, x9_1, x10_1, x11_1, rfl, rfl, rfl, rfl, HA, HK1, HB⟩ := hrel
    cases gk with
    | zero => exact absurd HA.out (by simp [drovewayref09_walked.l0])
    | succ k1 =>
      have H := HA.out
      clear HA
      simp only [drovewayref09_walked.l0] at H
      by_cases c4 : x11_1 < (l1.length : Int)
      · rw [if_pos c4] at H
        have c4b0 : decide (x11_1 < (l1.length : Int)) = true := decide_eq_true c4
        clear c4
        by_cases c5 : 0 ≤ x11_1
        · rw [if_pos c5] at H
          have c5b0 : decide (0 ≤ x11_1) = true := decide_eq_true c5
          clear c5
          by_cases c6 : 0 ≤ (rd l1 x11_1)
          · rw [if_pos c6] at H
            have c6b0 : decide (0 ≤ (rd l1 x11_1)) = true := decide_eq_true c6
            clear c6
            by_cases c7 : (rd l1 x11_1) < (l0.length : Int)
            · rw [if_pos c7] at H
              have c7b0 : decide ((rd l1 x11_1) < (l0.length : Int)) = true := decide_eq_true c7
              clear c7
              replace H := Option.bind_eq_some_iff.mp H
              obtain ⟨t181, A80, H⟩ := H
              replace H : (if t181 < 0 then (drovewayref09_walked.j1 k1 l0 l1 a2 x9_1 x10_1 x11_1 t181 true) else (if 0 ≤ t181 then (drovewayref09_walked.j1 k1 l0 l1 a2 x9_1 x10_1 x11_1 t181 ((Int.tmod (shr .i64 x9_1 t181) 2) == 1)) else (none))) = some (r1, r2) := H
              have A8 := Aside0.mk A80
              clear A80
              have HC9 := Aside0.mk H
              clear H
              have p179 : 0 ≤ (x11_1 : Int) := of_decide_eq_true (by first | (with_reducible assumption) | assumption)
              have q179 : x11_1 < (l1.length : Int) := of_decide_eq_true (by first | (with_reducible assumption) | assumption)
              obtain ⟨ad179, e179, hx179_0⟩ := Kd.at_int HR1.out x11_1 p179 q179
              cases e179
              replace hx179_0 := (HB.out.cell (World.block_lt_of_cell? w _ hx179_0)).trans hx179_0
              replace p179 := eq_true p179
              replace q179 := eq_true q179
              have p180 : 0 ≤ ((rd l1 x11_1) : Int) := of_decide_eq_true (by first | (with_reducible assumption) | assumption)
              have q180 : (rd l1 x11_1) < (l0.length : Int) := of_decide_eq_true (by first | (with_reducible assumption) | assumption)
              obtain ⟨ad180, e180, hx180_0, hx180_1, hx180_2⟩ := at_T39 HR0.out (rd l1 x11_1) p180 q180
              cases e180
              replace hx180_0 := (HB.out.cell (World.block_lt_of_cell? w _ hx180_0)).trans hx180_0
              replace hx180_1 := (HB.out.cell (World.block_lt_of_cell? w _ hx180_1)).trans hx180_1
              replace hx180_2 := (HB.out.cell (World.block_lt_of_cell? w _ hx180_2)).trans hx180_2
              replace p180 := eq_true p180
              replace q180 := eq_true q180
              go_upto_region 6 with (first | ((with_reducible refine gate_callee (f := 88) rfl ?_); refine goesL_ (some 28) rfl rfl Try.func88 (by kernel_rfl) rfl #[.agg #[.int .i64 ((rd_T39 l0 (rd l1 x11_1)).f0), .int .i64 ((rd_T39 l0 (rd l1 x11_1)).f1), .bool ((rd_T39 l0 (rd l1 x11_1)).f2)], .int .i64 x8_1] rfl (by (try simp only [List.map_toArray, List.map_cons, List.map_nil]); first | done | rfl | (simp only [List.length_drop, List.length_take]; rfl)) ?_; (with_reducible refine (drovewayref09_other.calls ((rd_T39 l0 (rd l1 x11_1)).f0) ((rd_T39 l0 (rd l1 x11_1)).f1) ((rd_T39 l0 (rd l1 x11_1)).f2) x8_1 t181 _ A8.out).mono ?_); rintro e w10 ⟨rfl, hb⟩; refine ⟨_, rfl, ?_⟩; have n0_ := Aside0.mk (below_step (by repeat (first | (with_reducible first | exact HB.out | apply below_alloc | apply pw_below_drewN | apply below_drew1) | exact HB.out)) hb); clear HB; have HB := n0_; clear n0_; (try clear hb); (try clear hb2); (try clear hk); (try clear hi)))
              (try simp only [Act.put, List.setIfInBounds_toArray, List.set_cons_zero, List.set_cons_succ])
              go_cut [37] (fun v37 wc => ∃ (kq : Nat) (x37_8 : Bool), v37 = .bool x37_8 ∧ Aside0 (drovewayref09_walked.j1 kq l0 l1 a2 x9_1 x10_1 x11_1 t181 x37_8 = some (r1, r2)) ∧ Aside0 (kq ≤ k1) ∧ Aside0 (Below w.heap.size w wc))
              case first =>
                have H := HC9.out
                clear HC9
                by_cases c11 : t181 < 0
                · rw [if_pos c11] at H
                  have c11b0 : decide (t181 < 0) = true := decide_eq_true c11
                  clear c11
                  (first | rw [c11b0] | (simp only [i64_w, i32_w]; rw [c11b0]) | skip)
                  have H' := Aside0.mk H
                  clear H
                  go_wp2
                  go_meet
                  case rel => exact ⟨_, (true), (by first | rfl | (simp; done) | (simp [*]; done)), H', ⟨by have := HK1.out; first | omega | exact Nat.le_refl _⟩, ⟨by repeat (first | (with_reducible first | exact HB.out | apply below_alloc | apply pw_below_drewN | apply below_drew1) | exact HB.out)⟩⟩
                · rw [if_neg c11] at H
                  have c11b0 : decide (t181 < 0) = false := decide_eq_false c11
                  clear c11
                  (first | rw [c11b0] | (simp only [i64_w, i32_w]; rw [c11b0]) | skip)
                  by_cases c12 : 0 ≤ t181
                  · rw [if_pos c12] at H
                    have c12b0 := eq_true c12
                    have c12b1 : decide (0 ≤ t181) = true := decide_eq_true c12
                    clear c12
                    obtain ⟨ji13, hji13⟩ : ∃ j_ : Int, (shr .i64 x9_1 t181) = j_ := ⟨_, rfl⟩
                    replace H : (drovewayref09_walked.j1 k1 l0 l1 a2 x9_1 x10_1 x11_1 t181 ((Int.tmod (ji13) 2) == 1)) = some (r1, r2) := by first | (rw [hji13] at H; exact H) | (simp only [hji13] at H ⊢; exact H)
                    have hji13_ : (x9_1 / 2 ^ min t181.toNat 64) = ji13 := hji13
                    have hji13z : t181 ≤ 64 → (x9_1 / 2 ^ t181.toNat) = ji13 := shr_small hji13
                    have H' := Aside0.mk H
                    clear H
                    go_wp2
                    go_meet
                    case rel => exact ⟨_, (((Int.tmod (ji13) 2) == 1)), (by first | rfl | (simp; done) | (simp only [← hji13] <;> (first | rfl | simp)) | (simp [*]; done)), H', ⟨by have := HK1.out; first | omega | exact Nat.le_refl _⟩, ⟨by repeat (first | (with_reducible first | exact HB.out | apply below_alloc | apply pw_below_drewN | apply below_drew1) | exact HB.out)⟩⟩
                  · rw [if_neg c12] at H
                    exact absurd H (by simp)
              case rest =>
                clear HC9
                try clear c1
                try clear p1
                try clear q1
                try clear hx1
                try clear p2
                try clear c4
                try clear c4b0
                try clear c5
                try clear c5b0
                try clear c6
                try clear c6b0
                try clear c7
                try clear c7b0
                try clear c8
                try clear c11
                try clear c11b0
                try clear c12
                try clear c12b0
                try clear c12b1
                try clear hx179_0
                try clear hx180_0
                try clear hx180_1
                try clear hx180_2
                try clear p179
                try clear p180
                try clear p2
                try clear q179
                try clear q180
                obtain ⟨kq, x37_8, rfl, HA, HJ8, HB⟩ := hcut
                cases kq with
                | zero => exact absurd HA.out (by simp [drovewayref09_walked.j1])
                | succ kj8 =>
                  have H := HA.out
                  clear HA
                  simp only [drovewayref09_walked.j1] at H
                  by_cases c14 : x37_8 = true
                  · subst c14
                    have H1 : (some (0, false)) = some (r1, r2) := by rw [if_pos rfl] at H; exact H
                    clear H
                    have H := H1
                    clear H1
                    simp only [Option.some.injEq, Prod.mk.injEq] at H
                    obtain ⟨rfl, rfl⟩ := H
                    go_wp2
                    go_ret2
                    exact ⟨by first | rfl | (simp [errW_none, errW_some] <;> rfl) | (simp [*, errW_none, errW_some] <;> rfl), by repeat (first | (with_reducible first | exact HB.out | apply below_alloc | apply pw_below_drewN | apply below_drew1) | exact HB.out)⟩
                  · replace c14 := Bool.eq_false_iff.mpr c14
                    subst c14
                    have H1 : (if 0 ≤ t181 then (if 0 ≤ x11_1 then (if x11_1 < (l1.length : Int) then (if 0 ≤ (rd l1 x11_1) then (if (rd l1 x11_1) < (l0.length : Int) then (if (rd_T39 l0 (rd l1 x11_1)).f2 = true then (drovewayref09_walked.l0 kj8 l0 l1 a2 t181 (wrap64 (x9_1 + (shl .i64 1 t181))) (wrap64 (x10_1 + 1)) (wrap64 (x11_1 + 1))) else (drovewayref09_walked.l0 kj8 l0 l1 a2 t181 (wrap64 (x9_1 + (shl .i64 1 t181))) x10_1 (wrap64 (x11_1 + 1)))) else (none)) else (none)) else (none)) else (none)) else (none)) = some (r1, r2) := by rw [if_neg (show ¬ (false = true) by decide)] at H; exact H
                    clear H
                    have H := H1
                    clear H1
                    by_cases c15 : 0 ≤ t181
                    · rw [if_pos c15] at H
                      have c15b0 := eq_true c15
                      have c15b1 : decide (0 ≤ t181) = true := decide_eq_true c15
                      clear c15
                      obtain ⟨ji16, hji16⟩ : ∃ j_ : Int, (shl .i64 1 t181) = j_ := ⟨_, rfl⟩
                      replace H : (if 0 ≤ x11_1 then (if x11_1 < (l1.length : Int) then (if 0 ≤ (rd l1 x11_1) then (if (rd l1 x11_1) < (l0.length : Int) then (if (rd_T39 l0 (rd l1 x11_1)).f2 = true then (drovewayref09_walked.l0 kj8 l0 l1 a2 t181 (wrap64 (x9_1 + (ji16))) (wrap64 (x10_1 + 1)) (wrap64 (x11_1 + 1))) else (drovewayref09_walked.l0 kj8 l0 l1 a2 t181 (wrap64 (x9_1 + (ji16))) x10_1 (wrap64 (x11_1 + 1)))) else (none)) else (none)) else (none)) else (none)) = some (r1, r2) := by first | (rw [hji16] at H; exact H) | (simp only [hji16] at H ⊢; exact H)
                      have hji16_ : (IntKind.i64.wrap (1 * 2 ^ min t181.toNat 64)) = ji16 := hji16
                      have hji16z : t181 ≤ 64 → (IntKind.i64.wrap (1 * 2 ^ t181.toNat)) = ji16 := shl_small hji16
                      have hji16u : (IntKind.i64.wrap (2 ^ min t181.toNat 64)) = ji16 := by have h_ := hji16_; rw [Int.one_mul] at h_; exact h_
                      have hji16v : t181 ≤ 64 → (IntKind.i64.wrap (2 ^ t181.toNat)) = ji16 := fun hle_ => by have h_ := hji16z hle_; rw [Int.one_mul] at h_; exact h_
                      have hji16y : (wrap64 (1 * 2 ^ min t181.toNat 64)) = ji16 := (i64_w _).symm.trans hji16_
                      have hji16x : t181 ≤ 64 → (wrap64 (1 * 2 ^ t181.toNat)) = ji16 := fun h_ => (i64_w _).symm.trans (hji16z h_)
                      by_cases c17 : 0 ≤ x11_1
                      · rw [if_pos c17] at H
                        have c17b0 : decide (0 ≤ x11_1) = true := decide_eq_true c17
                        clear c17
                        by_cases c18 : x11_1 < (l1.length : Int)
                        · rw [if_pos c18] at H
                          have c18b0 : decide (x11_1 < (l1.length : Int)) = true := decide_eq_true c18
                          clear c18
                          by_cases c19 : 0 ≤ (rd l1 x11_1)
                          · rw [if_pos c19] at H
                            have c19b0 : decide (0 ≤ (rd l1 x11_1)) = true := decide_eq_true c19
                            clear c19
                            by_cases c20 : (rd l1 x11_1) < (l0.length : Int)
                            · rw [if_pos c20] at H
                              have c20b0 : decide ((rd l1 x11_1) < (l0.length : Int)) = true := decide_eq_true c20
                              clear c20
                              obtain ⟨bq21, hbq21⟩ : ∃ b_ : Bool, b_ = ((rd_T39 l0 (rd l1 x11_1)).f2) := ⟨_, rfl⟩
                              replace H : (if bq21 = true then (drovewayref09_walked.l0 kj8 l0 l1 a2 t181 (wrap64 (x9_1 + (ji16))) (wrap64 (x10_1 + 1)) (wrap64 (x11_1 + 1))) else (drovewayref09_walked.l0 kj8 l0 l1 a2 t181 (wrap64 (x9_1 + (ji16))) x10_1 (wrap64 (x11_1 + 1)))) = some (r1, r2) := by rw [← hbq21] at H; exact H
                              have Nbq21 := Aside0.mk hbq21
                              clear hbq21
                              by_cases c22 : bq21 = true
                              · subst c22
                                have H1 : (drovewayref09_walked.l0 kj8 l0 l1 a2 t181 (wrap64 (x9_1 + (ji16))) (wrap64 (x10_1 + 1)) (wrap64 (x11_1 + 1))) = some (r1, r2) := by rw [if_pos rfl] at H; exact H
                                clear H
                                have H := H1
                                clear H1
                                have H' := Aside0.mk H
                                clear H
                                have p182 : 0 ≤ (x11_1 : Int) := of_decide_eq_true (by first | (with_reducible assumption) | assumption)
                                have q182 : x11_1 < (l1.length : Int) := of_decide_eq_true (by first | (with_reducible assumption) | assumption)
                                obtain ⟨ad182, e182, hx182_0⟩ := Kd.at_int HR1.out x11_1 p182 q182
                                obtain rfl : ad179 = ad182 := (by injection e182)
                                replace hx182_0 := (HB.out.cell (World.block_lt_of_cell? w _ hx182_0)).trans hx182_0
                                replace p182 := eq_true p182
                                replace q182 := eq_true q182
                                have p183 : 0 ≤ ((rd l1 x11_1) : Int) := of_decide_eq_true (by first | (with_reducible assumption) | assumption)
                                have q183 : (rd l1 x11_1) < (l0.length : Int) := of_decide_eq_true (by first | (with_reducible assumption) | assumption)
                                obtain ⟨ad183, e183, hx183_0, hx183_1, hx183_2⟩ := at_T39 HR0.out (rd l1 x11_1) p183 q183
                                (try rw [← Nbq21.out] at hx183_2)
                                obtain rfl : ad180 = ad183 := (by injection e183)
                                replace hx183_0 := (HB.out.cell (World.block_lt_of_cell? w _ hx183_0)).trans hx183_0
                                replace hx183_1 := (HB.out.cell (World.block_lt_of_cell? w _ hx183_1)).trans hx183_1
                                replace hx183_2 := (HB.out.cell (World.block_lt_of_cell? w _ hx183_2)).trans hx183_2
                                replace p183 := eq_true p183
                                replace q183 := eq_true q183
                                go_wp2
                                go_roundg kj8
                                case measure => have := HK1.out; have := HJ8.out; omega
                                case rel => exact ⟨(t181), (wrap64 (x9_1 + (ji16))), (wrap64 (x10_1 + 1)), (wrap64 (x11_1 + 1)), (by first | rfl | (simp; done) | (simp [*]; done)), (by first | rfl | (simp; done) | (simp only [← hji16] <;> (first | rfl | simp)) | (simp [*]; done)), (by first | rfl | (simp; done) | (simp [*]; done)), (by first | rfl | (simp; done) | (simp [*]; done)), H', ⟨by have := HK1.out; have := HJ8.out; omega⟩, ⟨by repeat (first | (with_reducible first | exact HB.out | apply below_alloc | apply pw_below_drewN | apply below_drew1) | exact HB.out)⟩⟩
                              · replace c22 := Bool.eq_false_iff.mpr c22
                                subst c22
                                have H1 : (drovewayref09_walked.l0 kj8 l0 l1 a2 t181 (wrap64 (x9_1 + (ji16))) x10_1 (wrap64 (x11_1 + 1))) = some (r1, r2) := by rw [if_neg (show ¬ (false = true) by decide)] at H; exact H
                                clear H
                                have H := H1
                                clear H1
                                have H' := Aside0.mk H
                                clear H
                                have p182 : 0 ≤ (x11_1 : Int) := of_decide_eq_true (by first | (with_reducible assumption) | assumption)
                                have q182 : x11_1 < (l1.length : Int) := of_decide_eq_true (by first | (with_reducible assumption) | assumption)
                                obtain ⟨ad182, e182, hx182_0⟩ := Kd.at_int HR1.out x11_1 p182 q182
                                obtain rfl : ad179 = ad182 := (by injection e182)
                                replace hx182_0 := (HB.out.cell (World.block_lt_of_cell? w _ hx182_0)).trans hx182_0
                                replace p182 := eq_true p182
                                replace q182 := eq_true q182
                                have p183 : 0 ≤ ((rd l1 x11_1) : Int) := of_decide_eq_true (by first | (with_reducible assumption) | assumption)
                                have q183 : (rd l1 x11_1) < (l0.length : Int) := of_decide_eq_true (by first | (with_reducible assumption) | assumption)
                                obtain ⟨ad183, e183, hx183_0, hx183_1, hx183_2⟩ := at_T39 HR0.out (rd l1 x11_1) p183 q183
                                (try rw [← Nbq21.out] at hx183_2)
                                obtain rfl : ad180 = ad183 := (by injection e183)
                                replace hx183_0 := (HB.out.cell (World.block_lt_of_cell? w _ hx183_0)).trans hx183_0
                                replace hx183_1 := (HB.out.cell (World.block_lt_of_cell? w _ hx183_1)).trans hx183_1
                                replace hx183_2 := (HB.out.cell (World.block_lt_of_cell? w _ hx183_2)).trans hx183_2
                                replace p183 := eq_true p183
                                replace q183 := eq_true q183
                                go_wp2
                                go_roundg kj8
                                case measure => have := HK1.out; have := HJ8.out; omega
                                case rel => exact ⟨(t181), (wrap64 (x9_1 + (ji16))), (x10_1), (wrap64 (x11_1 + 1)), (by first | rfl | (simp; done) | (simp [*]; done)), (by first | rfl | (simp; done) | (simp only [← hji16] <;> (first | rfl | simp)) | (simp [*]; done)), (by first | rfl | (simp; done) | (simp [*]; done)), (by first | rfl | (simp; done) | (simp [*]; done)), H', ⟨by have := HK1.out; have := HJ8.out; omega⟩, ⟨by repeat (first | (with_reducible first | exact HB.out | apply below_alloc | apply pw_below_drewN | apply below_drew1) | exact HB.out)⟩⟩
                            · rw [if_neg c20] at H
                              exact absurd H (by simp)
                          · rw [if_neg c19] at H
                            exact absurd H (by simp)
                        · rw [if_neg c18] at H
                          exact absurd H (by simp)
                      · rw [if_neg c17] at H
                        exact absurd H (by simp)
                    · rw [if_neg c15] at H
                      exact absurd H (by simp)
            · rw [if_neg c7] at H
              exact absurd H (by simp)
          · rw [if_neg c6] at H
            exact absurd H (by simp)
        · rw [if_neg c5] at H
          exact absurd H (by simp)
      · rw [if_neg c4] at H
        have c4b0 : decide (x11_1 < (l1.length : Int)) = false := decide_eq_false c4
        clear c4
        simp only [Option.some.injEq, Prod.mk.injEq] at H
        obtain ⟨rfl, rfl⟩ := H
        go_wp2
        go_ret2
        exact ⟨by first | rfl | (simp [errW_none, errW_some] <;> rfl) | (simp [*, errW_none, errW_some] <;> rfl), by repeat (first | (with_reducible first | exact HB.out | apply below_alloc | apply pw_below_drewN | apply below_drew1) | exact HB.out)⟩

/-! ### drovewayref09_isRing: function 64 -/
def drovewayref09_isRing.l0 : Nat → List (S39) → List Int → Int → Option (Int × Bool)
  | 0, _, _, _ => none
  | k + 1, x0, x1, x6 => if x6 < (x1.length : Int) then (if 0 ≤ x6 then (if (rd x1 x6) < 0 then (some (0, false)) else (if (rd x1 x6) ≥ (x0.length : Int) then (some (0, false)) else (drovewayref09_isRing.l0 k x0 x1 (wrap64 (x6 + 1))))) else (none)) else (if 0 < (x1.length : Int) then (if 0 ≤ (rd x1 0) then (if (rd x1 0) < (x0.length : Int) then ((drovewayref09_walked.f k x0 x1 ((rd_T39 x0 (rd x1 0)).f0)).bind fun bt188 => (if bt188.2 = true then (some (bt188.1, true)) else ((drovewayref09_walked.f k x0 x1 ((rd_T39 x0 (rd x1 0)).f1)).bind fun bt192 => (if bt192.2 = true then (some (bt192.1, true)) else (some (0, false)))))) else (none)) else (none)) else (none))
def drovewayref09_isRing.f (k : Nat) (l0 : List (S39)) (l1 : List Int) : Option (Int × Bool) := if (l1.length : Int) < 3 then (some (0, false)) else (drovewayref09_isRing.l0 k l0 l1 0)
theorem drovewayref09_isRing.mono_l : ∀ k, (∀ y0 y1 y2, LeO (drovewayref09_isRing.l0 k y0 y1 y2) (drovewayref09_isRing.l0 (k + 1) y0 y1 y2))
  | 0 => fun _ _ _ r h => by simp [drovewayref09_isRing.l0] at h
  | k + 1 => by
    have ih0 := drovewayref09_isRing.mono_l k
    · intro y0 y1 y2
      unfold drovewayref09_isRing.l0
      repeat' first
      | (with_reducible exact ih0 _ _ _)
      | (with_reducible exact drovewayref09_walked.mono _ _ _ _)
      | (with_reducible exact LeO.refl _)
      | (with_reducible exact LeO.none _)
      | (with_reducible refine LeO.ite ?_ ?_)
      | (with_reducible refine LeO.bind ?_ (fun _ => ?_))
      | exact ih0 _ _ _
      | exact drovewayref09_walked.mono _ _ _ _
      | exact LeO.none _
      | refine LeO.ite ?_ ?_
      | refine LeO.bind ?_ (fun _ => ?_)
theorem drovewayref09_isRing.mono : ∀ a0 a1 k, LeO (drovewayref09_isRing.f k a0 a1) (drovewayref09_isRing.f (k + 1) a0 a1) := by
  intro a0 a1 k
  have ih0 := drovewayref09_isRing.mono_l k
  unfold drovewayref09_isRing.f
  repeat' first
      | (with_reducible exact ih0 _ _ _)
      | (with_reducible exact drovewayref09_walked.mono _ _ _ _)
      | (with_reducible exact LeO.refl _)
      | (with_reducible exact LeO.none _)
      | (with_reducible refine LeO.ite ?_ ?_)
      | (with_reducible refine LeO.bind ?_ (fun _ => ?_))
      | exact ih0 _ _ _
      | exact drovewayref09_walked.mono _ _ _ _
      | exact LeO.none _
      | refine LeO.ite ?_ ?_
      | refine LeO.bind ?_ (fun _ => ?_)
set_option maxHeartbeats 8000000 in
set_option maxRecDepth 100000 in
theorem drovewayref09_isRing.calls (k : Nat) (A0 : Option Addr) (c0 : Nat) (l0 : List (S39)) (A1 : Option Addr) (c1 : Nat) (l1 : List Int) (r1 : Int) (r2 : Bool) (w : World) (hr0 : Kd.C k39 w A0 l0.length l0) (hc0 : l0.length ≤ c0) (hr1 : Kd.C (Kd.int .i64) w A1 l1.length l1) (hc1 : l1.length ≤ c1) (h : drovewayref09_isRing.f k l0 l1 = some (r1, r2)) :
    Calls Try.prog 64 #[.slice A0 l0.length c0, .slice A1 l1.length c1] w fun e w' => e = .returned (.tuple #[.int .i64 r1, .bool r2]) ∧ Below w.heap.size w w' := by
  have HR0 := Aside0.mk hr0
  have HC0 := Aside0.mk hc0
  clear hr0 hc0
  have HR1 := Aside0.mk hr1
  have HC1 := Aside0.mk hc1
  clear hr1 hc1
  have HB := Aside0.mk (Below.refl w.heap.size w)
  have H : (if (l1.length : Int) < 3 then (some (0, false)) else (drovewayref09_isRing.l0 k l0 l1 0)) = some (r1, r2) := h
  clear h
  by_cases c3 : (l1.length : Int) < 3
  · rw [if_pos c3] at H
    have c3b0 : decide ((l1.length : Int) < 3) = true := decide_eq_true c3
    have c3b1 : decide (l1.length < 3) = true := decide_eq_true (by omega)
    clear c3
    simp only [Option.some.injEq, Prod.mk.injEq] at H
    obtain ⟨rfl, rfl⟩ := H
    go_enter Try.func64, Try.ntmps64
    go_wp2
    go_ret2
    exact ⟨by first | rfl | (simp [errW_none, errW_some] <;> rfl) | (simp [*, errW_none, errW_some] <;> rfl), by repeat (first | (with_reducible first | exact HB.out | apply below_alloc | apply pw_below_drewN | apply below_drew1) | exact HB.out)⟩
  · rw [if_neg c3] at H
    have c3b0 : decide ((l1.length : Int) < 3) = false := decide_eq_false c3
    have c3b1 : decide (l1.length < 3) = false := decide_eq_false (by omega)
    clear c3
    have H' := Aside0.mk H
    clear H
    go_enter Try.func64, Try.ntmps64
    go_wp2
    go_loopg [6] k (fun kq v6 w' => ∃ (x6_1 : Int), v6 = .int .i64 x6_1 ∧ Aside0 (drovewayref09_isRing.l0 kq l0 l1 x6_1 = some (r1, r2)) ∧ Aside0 (kq ≤ k) ∧ Aside0 (Below w.heap.size w w'))
    case atStart => exact ⟨(0), (by first | rfl | (simp; done) | (simp [*]; done)), H', ⟨Nat.le_refl _⟩, ⟨by repeat (first | (with_reducible first | exact HB.out | apply below_alloc | apply pw_below_drewN | apply below_drew1) | exact HB.out)⟩⟩
    case round =>
      clear H'
      try clear c1
      try clear p2
      try clear c3
      try clear c3b0
      try clear c3b1
      obtain ⟨x6_1, rfl, HA, HK1, HB⟩ := hrel
      cases gk with
      | zero => exact absurd HA.out (by simp [drovewayref09_isRing.l0])
      | succ k1 =>
        have H := HA.out
        clear HA
        simp only [drovewayref09_isRing.l0] at H
        by_cases c4 : x6_1 < (l1.length : Int)
        · rw [if_pos c4] at H
          have c4b0 : decide (x6_1 < (l1.length : Int)) = true := decide_eq_true c4
          clear c4
          by_cases c5 : 0 ≤ x6_1
          · rw [if_pos c5] at H
            have c5b0 : decide (0 ≤ x6_1) = true := decide_eq_true c5
            clear c5
            by_cases c6 : (rd l1 x6_1) < 0
            · rw [if_pos c6] at H
              have c6b0 : decide ((rd l1 x6_1) < 0) = true := decide_eq_true c6
              clear c6
              simp only [Option.some.injEq, Prod.mk.injEq] at H
              obtain ⟨rfl, rfl⟩ := H
              have p184 : 0 ≤ (x6_1 : Int) := of_decide_eq_true (by first | (with_reducible assumption) | assumption)
              have q184 : x6_1 < (l1.length : Int) := of_decide_eq_true (by first | (with_reducible assumption) | assumption)
              obtain ⟨ad184, e184, hx184_0⟩ := Kd.at_int HR1.out x6_1 p184 q184
              cases e184
              replace hx184_0 := (HB.out.cell (World.block_lt_of_cell? w _ hx184_0)).trans hx184_0
              replace p184 := eq_true p184
              replace q184 := eq_true q184
              go_wp2
              go_ret2
              exact ⟨by first | rfl | (simp [errW_none, errW_some] <;> rfl) | (simp [*, errW_none, errW_some] <;> rfl), by repeat (first | (with_reducible first | exact HB.out | apply below_alloc | apply pw_below_drewN | apply below_drew1) | exact HB.out)⟩
            · rw [if_neg c6] at H
              have c6b0 : decide ((rd l1 x6_1) < 0) = false := decide_eq_false c6
              clear c6
              by_cases c7 : (rd l1 x6_1) ≥ (l0.length : Int)
              · rw [if_pos c7] at H
                have c7b0 : decide ((l0.length : Int) ≤ (rd l1 x6_1)) = true := decide_eq_true c7
                clear c7
                simp only [Option.some.injEq, Prod.mk.injEq] at H
                obtain ⟨rfl, rfl⟩ := H
                have p184 : 0 ≤ (x6_1 : Int) := of_decide_eq_true (by first | (with_reducible assumption) | assumption)
                have q184 : x6_1 < (l1.length : Int) := of_decide_eq_true (by first | (with_reducible assumption) | assumption)
                obtain ⟨ad184, e184, hx184_0⟩ := Kd.at_int HR1.out x6_1 p184 q184
                cases e184
                replace hx184_0 := (HB.out.cell (World.block_lt_of_cell? w _ hx184_0)).trans hx184_0
                replace p184 := eq_true p184
                replace q184 := eq_true q184
                have p185 : 0 ≤ (x6_1 : Int) := of_decide_eq_true (by first | (with_reducible assumption) | assumption)
                have q185 : x6_1 < (l1.length : Int) := of_decide_eq_true (by first | (with_reducible assumption) | assumption)
                obtain ⟨ad185, e185, hx185_0⟩ := Kd.at_int HR1.out x6_1 p185 q185
                obtain rfl : ad184 = ad185 := (by injection e185)
                replace hx185_0 := (HB.out.cell (World.block_lt_of_cell? w _ hx185_0)).trans hx185_0
                replace p185 := eq_true p185
                replace q185 := eq_true q185
                go_wp2
                go_ret2
                exact ⟨by first | rfl | (simp [errW_none, errW_some] <;> rfl) | (simp [*, errW_none, errW_some] <;> rfl), by repeat (first | (with_reducible first | exact HB.out | apply below_alloc | apply pw_below_drewN | apply below_drew1) | exact HB.out)⟩
              · rw [if_neg c7] at H
                have c7b0 : decide ((l0.length : Int) ≤ (rd l1 x6_1)) = false := decide_eq_false c7
                clear c7
                have H' := Aside0.mk H
                clear H
                have p184 : 0 ≤ (x6_1 : Int) := of_decide_eq_true (by first | (with_reducible assumption) | assumption)
                have q184 : x6_1 < (l1.length : Int) := of_decide_eq_true (by first | (with_reducible assumption) | assumption)
                obtain ⟨ad184, e184, hx184_0⟩ := Kd.at_int HR1.out x6_1 p184 q184
                cases e184
                replace hx184_0 := (HB.out.cell (World.block_lt_of_cell? w _ hx184_0)).trans hx184_0
                replace p184 := eq_true p184
                replace q184 := eq_true q184
                have p185 : 0 ≤ (x6_1 : Int) := of_decide_eq_true (by first | (with_reducible assumption) | assumption)
                have q185 : x6_1 < (l1.length : Int) := of_decide_eq_true (by first | (with_reducible assumption) | assumption)
                obtain ⟨ad185, e185, hx185_0⟩ := Kd.at_int HR1.out x6_1 p185 q185
                obtain rfl : ad184 = ad185 := (by injection e185)
                replace hx185_0 := (HB.out.cell (World.block_lt_of_cell? w _ hx185_0)).trans hx185_0
                replace p185 := eq_true p185
                replace q185 := eq_true q185
                go_wp2
                go_roundg k1
                case measure => have := HK1.out; omega
                case rel => exact ⟨(wrap64 (x6_1 + 1)), (by first | rfl | (simp; done) | (simp [*]; done)), H', ⟨by have := HK1.out; omega⟩, ⟨by repeat (first | (with_reducible first | exact HB.out | apply below_alloc | apply pw_below_drewN | apply below_drew1) | exact HB.out)⟩⟩
          · rw [if_neg c5] at H
            exact absurd H (by simp)
        · rw [if_neg c4] at H
          have c4b0 : decide (x6_1 < (l1.length : Int)) = false := decide_eq_false c4
          clear c4
          by_cases c8 : 0 < (l1.length : Int)
          · rw [if_pos c8] at H
            have c8b0 : decide (0 < (l1.length : Int)) = true := decide_eq_true c8
            have c8b1 : decide (0 < l1.length) = true := decide_eq_true (by omega)
            clear c8
            by_cases c9 : 0 ≤ (rd l1 0)
            · rw [if_pos c9] at H
              have c9b0 : decide (0 ≤ (rd l1 0)) = true := decide_eq_true c9
              clear c9
              by_cases c10 : (rd l1 0) < (l0.length : Int)
              · rw [if_pos c10] at H
                have c10b0 : decide ((rd l1 0) < (l0.length : Int)) = true := decide_eq_true c10
                clear c10
                replace H := Option.bind_eq_some_iff.mp H
                obtain ⟨⟨t188, t189⟩, A110, H⟩ := H
                replace H : (if t189 = true then (some (t188, true)) else ((drovewayref09_walked.f k1 l0 l1 ((rd_T39 l0 (rd l1 0)).f1)).bind fun bt192 => (if bt192.2 = true then (some (bt192.1, true)) else (some (0, false))))) = some (r1, r2) := H
                have A11 := Aside0.mk A110
                clear A110
                by_cases c12 : t189 = true
                · subst c12
                  have H1 : (some (t188, true)) = some (r1, r2) := by rw [if_pos rfl] at H; exact H
                  clear H
                  have H := H1
                  clear H1
                  simp only [Option.some.injEq, Prod.mk.injEq] at H
                  obtain ⟨rfl, rfl⟩ := H
                  have p186 : 0 ≤ (0 : Int) := (by omega)
                  have q186 : 0 < (l1.length : Int) := of_decide_eq_true (by first | (with_reducible assumption) | assumption)
                  obtain ⟨ad186, e186, hx186_0⟩ := Kd.at_int HR1.out 0 p186 q186
                  cases e186
                  have qi186 : (0 < l1.length) = True := eq_true (by omega)
                  (try rw [show ((0 : Int)).toNat = 0 from rfl] at hx186_0)
                  (try rw [Addr.add_zero'] at hx186_0)
                  replace hx186_0 := (HB.out.cell (World.block_lt_of_cell? w _ hx186_0)).trans hx186_0
                  replace p186 := eq_true p186
                  replace q186 := eq_true q186
                  have p187 : 0 ≤ ((rd l1 0) : Int) := of_decide_eq_true (by first | (with_reducible assumption) | assumption)
                  have q187 : (rd l1 0) < (l0.length : Int) := of_decide_eq_true (by first | (with_reducible assumption) | assumption)
                  obtain ⟨ad187, e187, hx187_0, hx187_1, hx187_2⟩ := at_T39 HR0.out (rd l1 0) p187 q187
                  cases e187
                  replace hx187_0 := (HB.out.cell (World.block_lt_of_cell? w _ hx187_0)).trans hx187_0
                  replace hx187_1 := (HB.out.cell (World.block_lt_of_cell? w _ hx187_1)).trans hx187_1
                  replace hx187_2 := (HB.out.cell (World.block_lt_of_cell? w _ hx187_2)).trans hx187_2
                  replace p187 := eq_true p187
                  replace q187 := eq_true q187
                  go_wp2_with (first | ((with_reducible refine gate_callee (f := 81) rfl ?_); refine goesL_ (some 42) rfl rfl Try.func81 (by kernel_rfl) rfl #[.slice (some ad187) l0.length c0, .slice (some ad186) l1.length c1, .int .i64 ((rd_T39 l0 (rd l1 0)).f0)] rfl (by (try simp only [List.map_toArray, List.map_cons, List.map_nil]); first | done | rfl | (simp only [List.length_drop, List.length_take]; rfl)) ?_; (with_reducible refine (drovewayref09_walked.calls k1 _ _ l0 _ _ l1 ((rd_T39 l0 (rd l1 0)).f0) t188 true _ ?side1 ?side2 ?side3 ?side4 A11.out).mono ?_); (case side1 => repeat (first | exact (Kd.C_below HR0.out HB.out) | (with_reducible refine Kd.C_alloc ?_ _) | (with_reducible refine Kd.C_drewN ?_ _) | (with_reducible refine Kd.C_drew ?_))); (case side2 => exact HC0.out); (case side3 => repeat (first | exact (Kd.C_below HR1.out HB.out) | (with_reducible refine Kd.C_alloc ?_ _) | (with_reducible refine Kd.C_drewN ?_ _) | (with_reducible refine Kd.C_drew ?_))); (case side4 => exact HC1.out); rintro e w13 ⟨rfl, hb⟩; refine ⟨_, rfl, ?_⟩; have n0_ := Aside0.mk (below_step (by repeat (first | (with_reducible first | exact HB.out | apply below_alloc | apply pw_below_drewN | apply below_drew1) | exact HB.out)) hb); clear HB; have HB := n0_; clear n0_; (try clear hb); (try clear hb2); (try clear hk); (try clear hi)))
                  go_ret2
                  exact ⟨by first | rfl | (simp [errW_none, errW_some] <;> rfl) | (simp [*, errW_none, errW_some] <;> rfl), by repeat (first | (with_reducible first | exact HB.out | apply below_alloc | apply pw_below_drewN | apply below_drew1) | exact HB.out)⟩
                · replace c12 := Bool.eq_false_iff.mpr c12
                  subst c12
                  have H1 : ((drovewayref09_walked.f k1 l0 l1 ((rd_T39 l0 (rd l1 0)).f1)).bind fun bt192 => (if bt192.2 = true then (some (bt192.1, true)) else (some (0, false)))) = some (r1, r2) := by rw [if_neg (show ¬ (false = true) by decide)] at H; exact H
                  clear H
                  have H := H1
                  clear H1
                  replace H := Option.bind_eq_some_iff.mp H
                  obtain ⟨⟨t192, t193⟩, A140, H⟩ := H
                  replace H : (if t193 = true then (some (t192, true)) else (some (0, false))) = some (r1, r2) := H
                  have A14 := Aside0.mk A140
                  clear A140
                  by_cases c15 : t193 = true
                  · subst c15
                    have H1 : (some (t192, true)) = some (r1, r2) := by rw [if_pos rfl] at H; exact H
                    clear H
                    have H := H1
                    clear H1
                    simp only [Option.some.injEq, Prod.mk.injEq] at H
                    obtain ⟨rfl, rfl⟩ := H
                    have p186 : 0 ≤ (0 : Int) := (by omega)
                    have q186 : 0 < (l1.length : Int) := of_decide_eq_true (by first | (with_reducible assumption) | assumption)
                    obtain ⟨ad186, e186, hx186_0⟩ := Kd.at_int HR1.out 0 p186 q186
                    cases e186
                    have qi186 : (0 < l1.length) = True := eq_true (by omega)
                    (try rw [show ((0 : Int)).toNat = 0 from rfl] at hx186_0)
                    (try rw [Addr.add_zero'] at hx186_0)
                    replace hx186_0 := (HB.out.cell (World.block_lt_of_cell? w _ hx186_0)).trans hx186_0
                    replace p186 := eq_true p186
                    replace q186 := eq_true q186
                    have p187 : 0 ≤ ((rd l1 0) : Int) := of_decide_eq_true (by first | (with_reducible assumption) | assumption)
                    have q187 : (rd l1 0) < (l0.length : Int) := of_decide_eq_true (by first | (with_reducible assumption) | assumption)
                    obtain ⟨ad187, e187, hx187_0, hx187_1, hx187_2⟩ := at_T39 HR0.out (rd l1 0) p187 q187
                    cases e187
                    replace hx187_0 := (HB.out.cell (World.block_lt_of_cell? w _ hx187_0)).trans hx187_0
                    replace hx187_1 := (HB.out.cell (World.block_lt_of_cell? w _ hx187_1)).trans hx187_1
                    replace hx187_2 := (HB.out.cell (World.block_lt_of_cell? w _ hx187_2)).trans hx187_2
                    replace p187 := eq_true p187
                    replace q187 := eq_true q187
                    go_wp2_with (first | ((with_reducible refine gate_callee (f := 81) rfl ?_); refine goesL_ (some 42) rfl rfl Try.func81 (by kernel_rfl) rfl #[.slice (some ad187) l0.length c0, .slice (some ad186) l1.length c1, .int .i64 ((rd_T39 l0 (rd l1 0)).f0)] rfl (by (try simp only [List.map_toArray, List.map_cons, List.map_nil]); first | done | rfl | (simp only [List.length_drop, List.length_take]; rfl)) ?_; (with_reducible refine (drovewayref09_walked.calls k1 _ _ l0 _ _ l1 ((rd_T39 l0 (rd l1 0)).f0) t188 false _ ?side1 ?side2 ?side3 ?side4 A11.out).mono ?_); (case side1 => repeat (first | exact (Kd.C_below HR0.out HB.out) | (with_reducible refine Kd.C_alloc ?_ _) | (with_reducible refine Kd.C_drewN ?_ _) | (with_reducible refine Kd.C_drew ?_))); (case side2 => exact HC0.out); (case side3 => repeat (first | exact (Kd.C_below HR1.out HB.out) | (with_reducible refine Kd.C_alloc ?_ _) | (with_reducible refine Kd.C_drewN ?_ _) | (with_reducible refine Kd.C_drew ?_))); (case side4 => exact HC1.out); rintro e w16 ⟨rfl, hb⟩; refine ⟨_, rfl, ?_⟩; have n0_ := Aside0.mk (below_step (by repeat (first | (with_reducible first | exact HB.out | apply below_alloc | apply pw_below_drewN | apply below_drew1) | exact HB.out)) hb); clear HB; have HB := n0_; clear n0_; (try clear hb); (try clear hb2); (try clear hk); (try clear hi); have p190 : 0 ≤ (0 : Int) := (by omega); have q190 : 0 < (l1.length : Int) := of_decide_eq_true (by first | (with_reducible assumption) | assumption); obtain ⟨ad190, e190, hx190_0⟩ := Kd.at_int HR1.out 0 p190 q190; obtain rfl : ad186 = ad190 := (by injection e190); have qi190 : (0 < l1.length) = True := eq_true (by omega); (try rw [show ((0 : Int)).toNat = 0 from rfl] at hx190_0); (try rw [Addr.add_zero'] at hx190_0); replace hx190_0 := (HB.out.cell (World.block_lt_of_cell? w _ hx190_0)).trans hx190_0; replace p190 := eq_true p190; replace q190 := eq_true q190; have p191 : 0 ≤ ((rd l1 0) : Int) := of_decide_eq_true (by first | (with_reducible assumption) | assumption); have q191 : (rd l1 0) < (l0.length : Int) := of_decide_eq_true (by first | (with_reducible assumption) | assumption); obtain ⟨ad191, e191, hx191_0, hx191_1, hx191_2⟩ := at_T39 HR0.out (rd l1 0) p191 q191; obtain rfl : ad187 = ad191 := (by injection e191); replace hx191_0 := (HB.out.cell (World.block_lt_of_cell? w _ hx191_0)).trans hx191_0; replace hx191_1 := (HB.out.cell (World.block_lt_of_cell? w _ hx191_1)).trans hx191_1; replace hx191_2 := (HB.out.cell (World.block_lt_of_cell? w _ hx191_2)).trans hx191_2; replace p191 := eq_true p191; replace q191 := eq_true q191) | ((with_reducible refine gate_callee (f := 81) rfl ?_); refine goesL_ (some 57) rfl rfl Try.func81 (by kernel_rfl) rfl #[.slice (some ad187) l0.length c0, .slice (some ad186) l1.length c1, .int .i64 ((rd_T39 l0 (rd l1 0)).f1)] rfl (by (try simp only [List.map_toArray, List.map_cons, List.map_nil]); first | done | rfl | (simp only [List.length_drop, List.length_take]; rfl)) ?_; (with_reducible refine (drovewayref09_walked.calls k1 _ _ l0 _ _ l1 ((rd_T39 l0 (rd l1 0)).f1) t192 true _ ?side1 ?side2 ?side3 ?side4 A14.out).mono ?_); (case side1 => repeat (first | exact (Kd.C_below HR0.out HB.out) | (with_reducible refine Kd.C_alloc ?_ _) | (with_reducible refine Kd.C_drewN ?_ _) | (with_reducible refine Kd.C_drew ?_))); (case side2 => exact HC0.out); (case side3 => repeat (first | exact (Kd.C_below HR1.out HB.out) | (with_reducible refine Kd.C_alloc ?_ _) | (with_reducible refine Kd.C_drewN ?_ _) | (with_reducible refine Kd.C_drew ?_))); (case side4 => exact HC1.out); rintro e w17 ⟨rfl, hb⟩; refine ⟨_, rfl, ?_⟩; have n0_ := Aside0.mk (below_step (by repeat (first | (with_reducible first | exact HB.out | apply below_alloc | apply pw_below_drewN | apply below_drew1) | exact HB.out)) hb); clear HB; have HB := n0_; clear n0_; (try clear hb); (try clear hb2); (try clear hk); (try clear hi)))
                    go_ret2
                    exact ⟨by first | rfl | (simp [errW_none, errW_some] <;> rfl) | (simp [*, errW_none, errW_some] <;> rfl), by repeat (first | (with_reducible first | exact HB.out | apply below_alloc | apply pw_below_drewN | apply below_drew1) | exact HB.out)⟩
                  · replace c15 := Bool.eq_false_iff.mpr c15
                    subst c15
                    have H1 : (some (0, false)) = some (r1, r2) := by rw [if_neg (show ¬ (false = true) by decide)] at H; exact H
                    clear H
                    have H := H1
                    clear H1
                    simp only [Option.some.injEq, Prod.mk.injEq] at H
                    obtain ⟨rfl, rfl⟩ := H
                    have p186 : 0 ≤ (0 : Int) := (by omega)
                    have q186 : 0 < (l1.length : Int) := of_decide_eq_true (by first | (with_reducible assumption) | assumption)
                    obtain ⟨ad186, e186, hx186_0⟩ := Kd.at_int HR1.out 0 p186 q186
                    cases e186
                    have qi186 : (0 < l1.length) = True := eq_true (by omega)
                    (try rw [show ((0 : Int)).toNat = 0 from rfl] at hx186_0)
                    (try rw [Addr.add_zero'] at hx186_0)
                    replace hx186_0 := (HB.out.cell (World.block_lt_of_cell? w _ hx186_0)).trans hx186_0
                    replace p186 := eq_true p186
                    replace q186 := eq_true q186
                    have p187 : 0 ≤ ((rd l1 0) : Int) := of_decide_eq_true (by first | (with_reducible assumption) | assumption)
                    have q187 : (rd l1 0) < (l0.length : Int) := of_decide_eq_true (by first | (with_reducible assumption) | assumption)
                    obtain ⟨ad187, e187, hx187_0, hx187_1, hx187_2⟩ := at_T39 HR0.out (rd l1 0) p187 q187
                    cases e187
                    replace hx187_0 := (HB.out.cell (World.block_lt_of_cell? w _ hx187_0)).trans hx187_0
                    replace hx187_1 := (HB.out.cell (World.block_lt_of_cell? w _ hx187_1)).trans hx187_1
                    replace hx187_2 := (HB.out.cell (World.block_lt_of_cell? w _ hx187_2)).trans hx187_2
                    replace p187 := eq_true p187
                    replace q187 := eq_true q187
                    go_wp2_with (first | ((with_reducible refine gate_callee (f := 81) rfl ?_); refine goesL_ (some 42) rfl rfl Try.func81 (by kernel_rfl) rfl #[.slice (some ad187) l0.length c0, .slice (some ad186) l1.length c1, .int .i64 ((rd_T39 l0 (rd l1 0)).f0)] rfl (by (try simp only [List.map_toArray, List.map_cons, List.map_nil]); first | done | rfl | (simp only [List.length_drop, List.length_take]; rfl)) ?_; (with_reducible refine (drovewayref09_walked.calls k1 _ _ l0 _ _ l1 ((rd_T39 l0 (rd l1 0)).f0) t188 false _ ?side1 ?side2 ?side3 ?side4 A11.out).mono ?_); (case side1 => repeat (first | exact (Kd.C_below HR0.out HB.out) | (with_reducible refine Kd.C_alloc ?_ _) | (with_reducible refine Kd.C_drewN ?_ _) | (with_reducible refine Kd.C_drew ?_))); (case side2 => exact HC0.out); (case side3 => repeat (first | exact (Kd.C_below HR1.out HB.out) | (with_reducible refine Kd.C_alloc ?_ _) | (with_reducible refine Kd.C_drewN ?_ _) | (with_reducible refine Kd.C_drew ?_))); (case side4 => exact HC1.out); rintro e w18 ⟨rfl, hb⟩; refine ⟨_, rfl, ?_⟩; have n0_ := Aside0.mk (below_step (by repeat (first | (with_reducible first | exact HB.out | apply below_alloc | apply pw_below_drewN | apply below_drew1) | exact HB.out)) hb); clear HB; have HB := n0_; clear n0_; (try clear hb); (try clear hb2); (try clear hk); (try clear hi); have p190 : 0 ≤ (0 : Int) := (by omega); have q190 : 0 < (l1.length : Int) := of_decide_eq_true (by first | (with_reducible assumption) | assumption); obtain ⟨ad190, e190, hx190_0⟩ := Kd.at_int HR1.out 0 p190 q190; obtain rfl : ad186 = ad190 := (by injection e190); have qi190 : (0 < l1.length) = True := eq_true (by omega); (try rw [show ((0 : Int)).toNat = 0 from rfl] at hx190_0); (try rw [Addr.add_zero'] at hx190_0); replace hx190_0 := (HB.out.cell (World.block_lt_of_cell? w _ hx190_0)).trans hx190_0; replace p190 := eq_true p190; replace q190 := eq_true q190; have p191 : 0 ≤ ((rd l1 0) : Int) := of_decide_eq_true (by first | (with_reducible assumption) | assumption); have q191 : (rd l1 0) < (l0.length : Int) := of_decide_eq_true (by first | (with_reducible assumption) | assumption); obtain ⟨ad191, e191, hx191_0, hx191_1, hx191_2⟩ := at_T39 HR0.out (rd l1 0) p191 q191; obtain rfl : ad187 = ad191 := (by injection e191); replace hx191_0 := (HB.out.cell (World.block_lt_of_cell? w _ hx191_0)).trans hx191_0; replace hx191_1 := (HB.out.cell (World.block_lt_of_cell? w _ hx191_1)).trans hx191_1; replace hx191_2 := (HB.out.cell (World.block_lt_of_cell? w _ hx191_2)).trans hx191_2; replace p191 := eq_true p191; replace q191 := eq_true q191) | ((with_reducible refine gate_callee (f := 81) rfl ?_); refine goesL_ (some 57) rfl rfl Try.func81 (by kernel_rfl) rfl #[.slice (some ad187) l0.length c0, .slice (some ad186) l1.length c1, .int .i64 ((rd_T39 l0 (rd l1 0)).f1)] rfl (by (try simp only [List.map_toArray, List.map_cons, List.map_nil]); first | done | rfl | (simp only [List.length_drop, List.length_take]; rfl)) ?_; (with_reducible refine (drovewayref09_walked.calls k1 _ _ l0 _ _ l1 ((rd_T39 l0 (rd l1 0)).f1) t192 false _ ?side1 ?side2 ?side3 ?side4 A14.out).mono ?_); (case side1 => repeat (first | exact (Kd.C_below HR0.out HB.out) | (with_reducible refine Kd.C_alloc ?_ _) | (with_reducible refine Kd.C_drewN ?_ _) | (with_reducible refine Kd.C_drew ?_))); (case side2 => exact HC0.out); (case side3 => repeat (first | exact (Kd.C_below HR1.out HB.out) | (with_reducible refine Kd.C_alloc ?_ _) | (with_reducible refine Kd.C_drewN ?_ _) | (with_reducible refine Kd.C_drew ?_))); (case side4 => exact HC1.out); rintro e w19 ⟨rfl, hb⟩; refine ⟨_, rfl, ?_⟩; have n0_ := Aside0.mk (below_step (by repeat (first | (with_reducible first | exact HB.out | apply below_alloc | apply pw_below_drewN | apply below_drew1) | exact HB.out)) hb); clear HB; have HB := n0_; clear n0_; (try clear hb); (try clear hb2); (try clear hk); (try clear hi)))
                    go_ret2
                    exact ⟨by first | rfl | (simp [errW_none, errW_some] <;> rfl) | (simp [*, errW_none, errW_some] <;> rfl), by repeat (first | (with_reducible first | exact HB.out | apply below_alloc | apply pw_below_drewN | apply below_drew1) | exact HB.out)⟩
              · rw [if_neg c10] at H
                exact absurd H (by simp)
            · rw [if_neg c9] at H
              exact absurd H (by simp)
          · rw [if_neg c8] at H
            exact absurd H (by simp)

-- NOT PRINTED: function 77 (drovewayref09_ringed)

-- NOT PRINTED: function 51 (drovewayref09_shortest)

-- NOT PRINTED: function 21 (drovewayref09_Ring)

/-! ### drovewayref09_IsRing: function 40 -/
def drovewayref09_IsRing.f (k : Nat) (a0 : Int) (l1 : List (S39)) (l2 : List Int) : Option (Int × Bool × Int) := (drovewayref09_Ties.f k a0 l1).bind fun t276 => (if t276 = 0 then ((drovewayref09_isRing.f k l1 l2).bind fun bt277 => (some (bt277.1, bt277.2, 0))) else (some (0, false, t276)))
theorem drovewayref09_IsRing.mono : ∀ a0 a1 a2 k, LeO (drovewayref09_IsRing.f k a0 a1 a2) (drovewayref09_IsRing.f (k + 1) a0 a1 a2) := by
  intro a0 a1 a2 k
  unfold drovewayref09_IsRing.f
  repeat' first
      | (with_reducible exact drovewayref09_Ties.mono _ _ _)
      | (with_reducible exact drovewayref09_isRing.mono _ _ _)
      | (with_reducible exact LeO.refl _)
      | (with_reducible exact LeO.none _)
      | (with_reducible refine LeO.ite ?_ ?_)
      | (with_reducible refine LeO.bind ?_ (fun _ => ?_))
      | exact drovewayref09_Ties.mono _ _ _
      | exact drovewayref09_isRing.mono _ _ _
      | exact LeO.none _
      | refine LeO.ite ?_ ?_
      | refine LeO.bind ?_ (fun _ => ?_)
set_option maxHeartbeats 8000000 in
set_option maxRecDepth 100000 in
theorem drovewayref09_IsRing.calls (k : Nat) (a0 : Int) (A1 : Option Addr) (c1 : Nat) (l1 : List (S39)) (A2 : Option Addr) (c2 : Nat) (l2 : List Int) (r1 : Int) (r2 : Bool) (r3 : Int) (w : World) (hr1 : Kd.C k39 w A1 l1.length l1) (hc1 : l1.length ≤ c1) (hr2 : Kd.C (Kd.int .i64) w A2 l2.length l2) (hc2 : l2.length ≤ c2) (h : drovewayref09_IsRing.f k a0 l1 l2 = some (r1, r2, r3)) :
    Calls Try.prog 40 #[.int .i64 a0, .slice A1 l1.length c1, .slice A2 l2.length c2] w fun e w' => e = .returned (.tuple #[.int .i64 r1, .bool r2, .int .i64 r3]) ∧ Below w.heap.size w w' := by
  have HR1 := Aside0.mk hr1
  have HC1 := Aside0.mk hc1
  clear hr1 hc1
  have HR2 := Aside0.mk hr2
  have HC2 := Aside0.mk hc2
  clear hr2 hc2
  have HB := Aside0.mk (Below.refl w.heap.size w)
  have H : ((drovewayref09_Ties.f k a0 l1).bind fun t276 => (if t276 = 0 then ((drovewayref09_isRing.f k l1 l2).bind fun bt277 => (some (bt277.1, bt277.2, 0))) else (some (0, false, t276)))) = some (r1, r2, r3) := h
  clear h
  replace H := Option.bind_eq_some_iff.mp H
  obtain ⟨t276, A40, H⟩ := H
  replace H : (if t276 = 0 then ((drovewayref09_isRing.f k l1 l2).bind fun bt277 => (some (bt277.1, bt277.2, 0))) else (some (0, false, t276))) = some (r1, r2, r3) := H
  have A4 := Aside0.mk A40
  clear A40
  by_cases c5 : t276 = 0
  · rw [if_pos c5] at H
    have c5b0 : (t276 == 0) = true := beq_iff_eq.mpr c5
    have c5b1 : (t276 != 0) = false := bne_eq_false_iff_eq.mpr c5
    clear c5
    replace H := Option.bind_eq_some_iff.mp H
    obtain ⟨⟨t277, t278⟩, A60, H⟩ := H
    replace H : (some (t277, t278, 0)) = some (r1, r2, r3) := H
    have A6 := Aside0.mk A60
    clear A60
    simp only [Option.some.injEq, Prod.mk.injEq] at H
    obtain ⟨rfl, rfl, rfl⟩ := H
    go_enter Try.func40, Try.ntmps40
    go_wp2_with (first | ((with_reducible refine gate_callee (f := 24) rfl ?_); refine goesL_ (some 14) rfl rfl Try.func24 (by kernel_rfl) rfl #[.int .i64 a0, .slice A1 l1.length c1] rfl (by (try simp only [List.map_toArray, List.map_cons, List.map_nil]); first | done | rfl | (simp only [List.length_drop, List.length_take]; rfl)) ?_; (with_reducible refine (drovewayref09_Ties.calls k a0 _ _ l1 t276 _ ?side1 ?side2 A4.out).mono ?_); (case side1 => repeat (first | exact HR1.out | (with_reducible refine Kd.C_alloc ?_ _) | (with_reducible refine Kd.C_drewN ?_ _) | (with_reducible refine Kd.C_drew ?_))); (case side2 => exact HC1.out); rintro e w' ⟨rfl, ⟨nd, rfl⟩⟩; refine ⟨_, rfl, ?_⟩) | ((with_reducible refine gate_callee (f := 64) rfl ?_); refine goesL_ (some 21) rfl rfl Try.func64 (by kernel_rfl) rfl #[.slice A1 l1.length c1, .slice A2 l2.length c2] rfl (by (try simp only [List.map_toArray, List.map_cons, List.map_nil]); first | done | rfl | (simp only [List.length_drop, List.length_take]; rfl)) ?_; (with_reducible refine (drovewayref09_isRing.calls k _ _ l1 _ _ l2 t277 t278 _ ?side1 ?side2 ?side3 ?side4 A6.out).mono ?_); (case side1 => repeat (first | exact HR1.out | (with_reducible refine Kd.C_alloc ?_ _) | (with_reducible refine Kd.C_drewN ?_ _) | (with_reducible refine Kd.C_drew ?_))); (case side2 => exact HC1.out); (case side3 => repeat (first | exact HR2.out | (with_reducible refine Kd.C_alloc ?_ _) | (with_reducible refine Kd.C_drewN ?_ _) | (with_reducible refine Kd.C_drew ?_))); (case side4 => exact HC2.out); rintro e w7 ⟨rfl, hb⟩; refine ⟨_, rfl, ?_⟩; have n0_ := Aside0.mk (below_step (by repeat (first | (with_reducible first | exact HB.out | apply below_alloc | apply pw_below_drewN | apply below_drew1) | exact HB.out)) hb); clear HB; have HB := n0_; clear n0_; (try clear hb); (try clear hb2); (try clear hk); (try clear hi)))
    go_ret3
    exact ⟨by first | rfl | (simp [errW_none, errW_some] <;> rfl) | (simp [*, errW_none, errW_some] <;> rfl), by repeat (first | (with_reducible first | exact HB.out | apply below_alloc | apply pw_below_drewN | apply below_drew1) | exact HB.out)⟩
  · rw [if_neg c5] at H
    have c5b0 : (t276 == 0) = false := beq_eq_false_iff_ne.mpr c5
    have c5b1 : (t276 != 0) = true := bne_iff_ne.mpr c5
    simp only [Option.some.injEq, Prod.mk.injEq] at H
    obtain ⟨rfl, rfl, rfl⟩ := H
    go_enter Try.func40, Try.ntmps40
    go_wp2_with (first | ((with_reducible refine gate_callee (f := 24) rfl ?_); refine goesL_ (some 14) rfl rfl Try.func24 (by kernel_rfl) rfl #[.int .i64 a0, .slice A1 l1.length c1] rfl (by (try simp only [List.map_toArray, List.map_cons, List.map_nil]); first | done | rfl | (simp only [List.length_drop, List.length_take]; rfl)) ?_; (with_reducible refine (drovewayref09_Ties.calls k a0 _ _ l1 t276 _ ?side1 ?side2 A4.out).mono ?_); (case side1 => repeat (first | exact HR1.out | (with_reducible refine Kd.C_alloc ?_ _) | (with_reducible refine Kd.C_drewN ?_ _) | (with_reducible refine Kd.C_drew ?_))); (case side2 => exact HC1.out); rintro e w' ⟨rfl, ⟨nd, rfl⟩⟩; refine ⟨_, rfl, ?_⟩))
    go_ret3
    exact ⟨by first | rfl | (simp [errW_none, errW_some] <;> rfl) | (simp [*, errW_none, errW_some] <;> rfl), by repeat (first | (with_reducible first | exact HB.out | apply below_alloc | apply pw_below_drewN | apply below_drew1) | exact HB.out)⟩

-- NOT PRINTED: function 9 (drovewaylaw09_FeudsRings)

end
end Go.Proofs.Ytaegldcifhgnmaa.B

/- A drawn region with guards that say no, operation by operation. -/
namespace Go.Proofs.Ytaegldcifhgnmaa.A
variable {P : Program} {ops : Array Oper} {Q : Exit → Act → World → Prop} {md : Region.Mode} {S : World → Prop} {oi : Oper} {fuel : Nat} {listed : Array Bool} {a : Act} {w : World}

theorem noPanic_not {Q : Exit → Act → World → Prop} {c : List PanicEntry} {a : Act} {w : World} : ¬ NoPanic Q (.panic c) a w := fun h => h

theorem H_off (i d : Nat) (ho : ops[i]? = some oi) (hd : oi.dst = some d) (hn : Region.noSelect ops = true) (hf : Region.free md ops listed i = true) (hr : (Region.ready md ops listed).contains i = true)
    (hw : Region.wanted oi (yielded ops a.tmps) = false) (hS : S w) (h : wpAnyH P md ops (NoPanic Q) S fuel (listed.setIfInBounds i true) (a.put (some d) undef) w) : wpAnyH P md ops (NoPanic Q) S (fuel + 1) listed a w :=
  wpAnyH_take ho hn hf hr (fun _ _ _ h => (noPanic_not h).elim) (Or.inr ⟨hw, rfl⟩) hS (by rw [hd]; exact h)

theorem H_on (i d : Nat) (v : Value) (ho : ops[i]? = some oi) (hd : oi.dst = some d) (hn : Region.noSelect ops = true) (hf : Region.free md ops listed i = true) (hr : (Region.ready md ops listed).contains i = true)
    (hw : Region.wanted oi (yielded ops a.tmps) = true) (hy : ∀ w, S w → (execOp a.eval oi).run P w = .ok (.value v) w) (hS : S w) (h : wpAnyH P md ops (NoPanic Q) S fuel (listed.setIfInBounds i true) (a.put (some d) v) w) : wpAnyH P md ops (NoPanic Q) S (fuel + 1) listed a w :=
  wpAnyH_take ho hn hf hr (fun _ _ _ h => (noPanic_not h).elim) (Or.inl ⟨hw, hy⟩) hS (by rw [hd]; exact h)
end Go.Proofs.Ytaegldcifhgnmaa.A

/- append to a row of whole numbers that is cut to its own length: one step of a region that draws its order. -/
namespace Go.Proofs.Ytaegldcifhgnmaa.B
open Go.Proofs.Ytaegldcifhgnmaa.A
open Go.RowKit Go.Proofs.YtaegldcifhgnmaaW.PrintWords Go.Proofs.YtaegldcifhgnmaaW.PrintMore

theorem grown_some {w w' : World} (h : w.grownBy w' none) (row : Option Nat) : w.grownBy w' row := ⟨h.os, h.tape, h.output, h.size, fun k hk _ => h.block k hk (by intro e; cases e)⟩
theorem appendI_run {W : World} {B : Nat} {A1 : Option Addr} {n c1 : Nat} {now : List Int} (p : Int) (ty : TypeId) (HO : Kd.R (Kd.int .i64) 3 W B (fun _ => True) (.slice A1 n c1) now) (hB : B ≤ W.heap.size) (hn : n ≤ 1000) :
    ∃ v1 w1, (Builtin.append_ #[28, 28] ty #[.slice A1 n n, .slice (some ⟨W.heap.size, 0, none⟩) 1 1]).run Try.prog (W.alloc (.cells #[.int .i64 p] 3)) = .ok v1 w1 ∧ Kd.R (Kd.int .i64) 3 w1 B (fun _ => True) v1 (now ++ [p]) ∧ Below W.heap.size W w1 := by
  obtain ⟨i0, hi, hzz⟩ := Option.map_eq_some_iff.1 info3
  simp only [Prod.mk.injEq] at hzz
  obtain ⟨hz0, hz1, hz2⟩ := hzz
  have hnl : n = now.length := (Kd.R_reads' HO).1
  obtain ⟨h0, inner, hown, hr⟩ := HO
  have hnews := World.news_of_block (cs := #[.int .i64 p]) (t := 3) (fr := (0, 0)) (heap_alloc_new W (.cells #[.int .i64 p] 3))
  have hsz : (Kd.int .i64).sz = 1 := rfl
  have key : ∃ v1 w1, (Builtin.append_ #[28, 28] ty #[.slice A1 n n, .slice (some ⟨W.heap.size, 0, none⟩) 1 1]).run Try.prog (W.alloc (.cells #[.int .i64 p] 3)) = .ok v1 w1 ∧ w1.ownsRow (W.heap.size + 1) 3 1 v1 (n + 1) (inner ++ [.int .i64 p]) ∧ (W.alloc (.cells #[.int .i64 p] 3)).grownBy w1 none := by
    rcases hown.2 with ⟨e1, e2⟩ | ⟨g, cap, cur, e1, hg, hh, hc, hcm, hcs, ht⟩
    · injection e1 with e3 e4 e5
      subst e3 e4
      have hin : inner = [] := by
        have := hown.1
        rw [← hnl, Nat.zero_mul] at this
        exact List.eq_nil_of_length_eq_zero this
      rw [hin]
      obtain ⟨v1, w1, h1, h2, h3, _⟩ := run_append_own_at (P := Try.prog) (W.alloc (.cells #[.int .i64 p] 3)) (W.heap.size + 1) 28 ty 3 i0 (.int .i64 0) 1 8 Try.underlying28 hi hz0 hz1 hz2 rfl (by decide) (.slice none 0 0) 0 [] (own_nil _ _ _ _) ⟨W.heap.size, 0, none⟩ 1 1 [.int .i64 p] rfl hnews (by intro u hu; simp at hu; subst hu; rfl) (by decide) (by decide) (by simp)
      exact ⟨v1, w1, h1, h2, h3⟩
    · injection e1 with e3 e4 e5
      subst e3
      rw [hsz] at hcs ht hown
      have hlen := hown.1
      rw [← hnl] at hlen ht
      have holds : ∀ j u, inner[j]? = some u → (W.alloc (.cells #[.int .i64 p] 3)).cell? ((⟨g, 0, none⟩ : Addr).add j) = some u := by
        intro j u hu
        have hgl : g < W.heap.size := by
          have := (Array.getElem?_eq_some_iff.1 hh).1
          exact this
        have hb2 : (W.alloc (.cells #[.int .i64 p] 3)).heap[g]? = some (.cells cur 3 (0, 0)) := by
          rw [← hh]
          exact (below_alloc (Below.refl W.heap.size W) _).block g hgl
        refine World.news_of_block hb2 j u ?_
        rw [← ht, List.getElem?_take] at hu
        split at hu
        · exact hu
        · cases hu
      obtain ⟨v1, w1, h1, h2, h3⟩ := run_append_arg_grows (P := Try.prog) (w := W.alloc (.cells #[.int .i64 p] 3)) 28 ty 3 i0 (.int .i64 0) 1 8 Try.underlying28 hi hz0 hz1 hz2 rfl (by decide) ⟨g, 0, none⟩ n n inner hlen holds ⟨W.heap.size, 0, none⟩ 1 1 [.int .i64 p] rfl hnews (by omega) (by simp only [maxLen]; omega) (by omega)
      exact ⟨v1, w1, h1, by simpa using h2, h3⟩
  obtain ⟨v1, w1, h1, h2, h3⟩ := key
  have hgr : W.grownBy w1 none := World.grownBy.trans (World.grownBy_alloc W _ _) h3
  refine ⟨v1, w1, h1, ?_, (below_alloc (Below.refl W.heap.size W) _).grown h3 (by simp) (fun k hk => by cases hk)⟩
  have hown1 : w1.ownsRow B 3 (Kd.int .i64).sz v1 (now.length + 1) (inner ++ [.int .i64 p]) := by rw [← hnl]; exact own_weaken h2 (by omega)
  refine Kd.R_appended (okp := fun _ => False) h0 hr rfl (fun _ hk => hk.elim) (fun _ _ => trivial) hown1 (grown_some hgr _) ?_
  right
  rcases h2.2 with ⟨_, e⟩ | ⟨g, cap, cur, e, hg, _⟩
  · omega
  · exact ⟨g, by rw [e]; rfl, by omega⟩
section
variable {ops : Array Oper} {o : Oper} {a : Act} {Q : Exit → Act → World → Prop} {K : Act → World → Prop}
theorem step_appendI {W : World} {B : Nat} {A1 : Option Addr} {n c1 : Nat} {now : List Int} (p : Int) (hw : Region.wanted o (yielded ops a.tmps) = true) (s x : Operand) (ho : o.op = .call { callee := .builtin .append, args := #[s, x], argTypes := #[28, 28] })
    (hs : a.eval s = .slice A1 n n) (hx : a.eval x = .slice (some ⟨W.heap.size, 0, none⟩) 1 1) (HO : Kd.R (Kd.int .i64) 3 W B (fun _ => True) (.slice A1 n c1) now) (hB : B ≤ W.heap.size) (hn : n ≤ 1000)
    (h : ∀ v1 w1, Kd.R (Kd.int .i64) 3 w1 B (fun _ => True) v1 (now ++ [p]) → Below W.heap.size W w1 → K (a.put o.dst v1) w1) :
    if Region.wanted o (yielded ops a.tmps) = true then Oper.wp Try.prog o a (W.alloc (.cells #[.int .i64 p] 3)) K Q else K (a.put o.dst undef) (W.alloc (.cells #[.int .i64 p] 3)) := by
  obtain ⟨v1, w1, hr, h1, h2⟩ := appendI_run p o.type HO hB hn
  rw [if_pos hw]
  unfold Oper.wp execOp
  simp only [ho, resolve, invoke, builtin, Sem.run_bind, Sem.run_pure, Result.andThen_ok, List.map_toArray, List.map_cons, List.map_nil, hs, hx, hr]
  exact h v1 w1 h1 h2
end
end Go.Proofs.Ytaegldcifhgnmaa.B

/- What the reference's isRing computes (plain). -/
namespace Go.Proofs.Ytaegldcifhgnmaa.B
open Go.Proofs.Ytaegldcifhgnmaa.A
open Go.RowKit Go.Proofs.YtaegldcifhgnmaaW.PrintWords Go.Proofs.YtaegldcifhgnmaaW.PrintMore

theorem rdJ (r : List Int) (i : Nat) : rd r (i : Int) = r.getD i 0 := by simp [rd]
theorem rdB (l : List S39) (i : Int) : rd_T39 l i = tieA l i := rfl
theorem other_eq {t : S39} (h0 : 0 ≤ t.f0) (h1 : 0 ≤ t.f1) (v : Nat) : drovewayref09_other.f t.f0 t.f1 t.f2 (v : Int) = some (match otherN t v with | some x => (x : Int) | none => -1) := by
  unfold drovewayref09_other.f otherN
  by_cases h : t.f0 = (v : Int)
  · rw [if_pos h, if_pos h]
    congr 1
    show t.f1 = ((t.f1.toNat : Nat) : Int)
    omega
  · rw [if_neg h, if_neg h]
    by_cases h' : t.f1 = (v : Int)
    · rw [if_pos h', if_pos h']
      congr 1
      show t.f0 = ((t.f0.toNat : Nat) : Int)
      omega
    · rw [if_neg h', if_neg h']
theorem or_add {a c : Nat} (ha : a < 2 ^ 62) (hc : c < 62) (h : a.testBit c = false) : a + 2 ^ c = a ||| 2 ^ c := by
  have h1 : a &&& 2 ^ c = 0 := by
    apply Nat.eq_of_testBit_eq
    intro i
    rw [Nat.testBit_and, tb_two, Nat.zero_testBit]
    by_cases e : i = c
    · subst e; rw [h, Bool.false_and]
    · rw [beq_eq_false_iff_ne.mpr e, Bool.and_false]
  have hp := two_lt hc
  have hb := BitVec.add_eq_or_of_and_eq_zero (BitVec.ofNat 64 a) (BitVec.ofNat 64 (2 ^ c)) (by
    apply BitVec.eq_of_toNat_eq
    rw [BitVec.toNat_and, BitVec.toNat_ofNat, BitVec.toNat_ofNat, Nat.mod_eq_of_lt (by omega), Nat.mod_eq_of_lt (by omega), h1]; rfl)
  have hn := congrArg BitVec.toNat hb
  rw [BitVec.toNat_add, BitVec.toNat_or, BitVec.toNat_ofNat, BitVec.toNat_ofNat, Nat.mod_eq_of_lt (show a < 2 ^ 64 by omega), Nat.mod_eq_of_lt (show 2 ^ c < 2 ^ 64 by omega), Nat.mod_eq_of_lt (by omega)] at hn
  exact hn
section
variable {n : Int} {l : List S39} {r : List Int}
theorem walked_l0 (hg : goodT l) (hr : r.length ≤ 1000) (hin : ∀ k, k < r.length → inR l (r.getD k 0)) (fr : Nat) : ∀ (d k at_ fe met : Nat), r.length - k = d → k ≤ r.length → fe ≤ k → met < 2 ^ 60 → Ev (fun K => drovewayref09_walked.l0 K l r (fr : Int) (at_ : Int) (met : Int) (fe : Int) (k : Int)) (walkN l r fr d k at_ fe met) := by
  intro d
  induction d with
  | zero =>
    intro k at_ fe met hd hk hf hm
    obtain rfl : k = r.length := by omega
    refine Ev.step (f := fun _ => some ((fe : Int), (at_ : Int) == (fr : Int))) (fun k => ?_) ?_
    · rw [drovewayref09_walked.l0, if_neg (by omega)]
    · rw [walkN]
      have : ((at_ : Int) == (fr : Int)) = decide (at_ = fr) := by
        by_cases e : at_ = fr
        · rw [decide_eq_true e, beq_iff_eq]; omega
        · rw [decide_eq_false e, beq_eq_false_iff_ne]; omega
      rw [this]
      exact Ev.now _
  | succ d ih =>
    intro k at_ fe met hd hk hf hm
    have hlt : k < r.length := by omega
    have hi := hin k hlt
    have gi := tieA_good hg hi
    have h1 := hi.1
    have h2 := hi.2
    rw [walkN]
    have hst : ∀ K, drovewayref09_walked.l0 (K + 1) l r (fr : Int) (at_ : Int) (met : Int) (fe : Int) (k : Int) = (some (match otherN (tieA l (r.getD k 0)) at_ with | some x => (x : Int) | none => -1)).bind fun t181 => (if t181 < 0 then (drovewayref09_walked.j1 K l r fr met fe k t181 true) else (if 0 ≤ t181 then (drovewayref09_walked.j1 K l r fr met fe k t181 ((Int.tmod (shr .i64 met t181) 2) == 1)) else (none))) := by
      intro K
      rw [drovewayref09_walked.l0, if_pos (by omega), if_pos (by omega), rdJ, if_pos h1, if_pos h2, rdB, other_eq gi.1 (by omega)]
    cases e : otherN (tieA l (r.getD k 0)) at_ with
    | none =>
      rw [e] at hst
      refine Ev.step hst ?_
      refine Ev.congr (fun K => by rw [Option.bind_some, if_pos (by decide)]) ?_
      refine Ev.step (f := fun _ => some ((0 : Int), false)) (fun K => ?_) (Ev.now _)
      rw [drovewayref09_walked.j1, if_pos rfl]
    | some v =>
      rw [e] at hst
      have p := other_parts gi.1 gi.2.1 e
      have pv := hasB_iff.mp p.2.1
      have hv : v < 60 := by omega
      have h60 : 2 ^ v < 2 ^ 60 := Nat.pow_lt_pow_right (by decide) hv
      refine Ev.step hst ?_
      refine Ev.congr (fun K => by rw [Option.bind_some, if_neg (by dsimp only; omega), if_pos (by dsimp only; omega)]) ?_
      dsimp only
      rw [shr_mod met v (by omega)]
      by_cases hb : met.testBit v = true
      · rw [if_pos hb, if_pos hb]
        refine Ev.step (f := fun _ => some ((0 : Int), false)) (fun K => ?_) (Ev.now _)
        rw [drovewayref09_walked.j1, if_pos (by decide)]
      · rw [if_neg hb, if_neg hb]
        have hb' : met.testBit v = false := by simpa using hb
        have hfb : fe + feA l r k ≤ k + 1 := by
          have : feA l r k ≤ 1 := by unfold feA feT; split <;> omega
          omega
        refine Ev.step (fun K => ?_) (ih (k + 1) v (fe + feA l r k) (met ||| 2 ^ v) (by omega) (by omega) hfb (or_lt hm h60))
        have hw : wrap64 ((met : Int) + ((2 ^ v : Nat) : Int)) = ((met ||| 2 ^ v : Nat) : Int) := by
          rw [← or_add (lt62 hm (by decide)) (by omega) hb']
          generalize 2 ^ v = P at h60
          rw [wrap64_id] <;> omega
        rw [drovewayref09_walked.j1, if_neg (by decide), if_pos (by omega), if_pos (by omega), if_pos (by omega), rdJ, if_pos h1, if_pos h2, rdB, shl_one (by omega), hw, wrapS hlt (by omega)]
        unfold feA feT
        by_cases hc : (tieA l (r.getD k 0)).f2 = true
        · rw [if_pos hc, if_pos hc, wrap64_id (by omega) (by omega)]; rfl
        · rw [if_neg hc, if_neg hc]; rfl
theorem walked_ev (hg : goodT l) (hr : r.length ≤ 1000) (hin : ∀ k, k < r.length → inR l (r.getD k 0)) (fr : Nat) : Ev (fun K => drovewayref09_walked.f K l r (fr : Int)) (walkF l r fr) :=
  walked_l0 hg hr hin fr r.length 0 fr 0 0 (by omega) (Nat.zero_le _) (Nat.le_refl _) (by decide)
theorem isRing_l0 (hg : goodT l) (hr : r.length ≤ 1000) (h3 : 3 ≤ r.length) : ∀ (d k : Nat), r.length - k = d → k ≤ r.length → (∀ j, j < k → inR l (r.getD j 0)) → Ev (fun K => drovewayref09_isRing.l0 K l r (k : Int)) (isRingR l r) := by
  intro d
  unfold isRingR
  rw [if_neg (by omega)]
  induction d with
  | zero =>
    intro k hd hk hp
    obtain rfl : k = r.length := by omega
    rw [if_pos hp]
    have hi := hp 0 (by omega)
    have gi := tieA_good hg hi
    have h1 := hi.1
    have h2 := hi.2
    have wa := walked_ev hg hr hp (tieA l (r.getD 0 0)).f0.toNat
    have wb := walked_ev hg hr hp (tieA l (r.getD 0 0)).f1.toNat
    rw [Int.toNat_of_nonneg (by omega)] at wa wb
    generalize walkF l r (tieA l (r.getD 0 0)).f0.toNat = wA at wa
    generalize walkF l r (tieA l (r.getD 0 0)).f1.toNat = wB at wb
    have e0 : rd r 0 = r.getD 0 0 := rdJ r 0
    refine Ev.step (f := fun k => (drovewayref09_walked.f k l r (tieA l (r.getD 0 0)).f0).bind fun bt188 => (if bt188.2 = true then (some (bt188.1, true)) else ((drovewayref09_walked.f k l r (tieA l (r.getD 0 0)).f1).bind fun bt192 => (if bt192.2 = true then (some (bt192.1, true)) else (some (0, false)))))) (fun K => ?_) ?_
    · rw [drovewayref09_isRing.l0, if_neg (by omega), if_pos (by omega), e0, if_pos h1, if_pos h2, rdB]
    refine Ev.bind (f := fun k bt188 => (if bt188.2 = true then (some (bt188.1, true)) else ((drovewayref09_walked.f k l r (tieA l (r.getD 0 0)).f1).bind fun bt192 => (if bt192.2 = true then (some (bt192.1, true)) else (some (0, false)))))) wa ?_
    by_cases ha : wA.2 = true
    · rw [if_pos ha]
      refine Ev.congr (f := fun _ => some wA) (fun K => ?_) (Ev.now _)
      rw [if_pos ha, ← ha]
    · rw [if_neg ha]
      refine Ev.congr (fun K => by rw [if_neg ha]) ?_
      refine Ev.bind (f := fun _ bt192 => (if bt192.2 = true then (some (bt192.1, true)) else (some (0, false)))) wb ?_
      by_cases hb : wB.2 = true
      · simp only [if_pos hb]
        refine Ev.congr (f := fun _ => some wB) (fun K => ?_) (Ev.now _)
        rw [← hb]
      · simp only [if_neg hb]
        exact Ev.now _
  | succ d ih =>
    intro k hd hk hp
    have hlt : k < r.length := by omega
    by_cases hi : inR l (r.getD k 0)
    · refine Ev.step (fun K => ?_) (ih (k + 1) (by omega) (by omega) fun j hj => ?_)
      · rw [drovewayref09_isRing.l0, if_pos (by omega), if_pos (by omega), rdJ, if_neg (by unfold inR at hi; omega), if_neg (by unfold inR at hi; omega), wrapS hlt (by omega)]
      · by_cases e : j = k
        · subst e; exact hi
        · exact hp j (by omega)
    · rw [if_neg (fun h => hi (h k hlt))]
      refine Ev.step (f := fun _ => some ((0 : Int), false)) (fun K => ?_) (Ev.now _)
      rw [drovewayref09_isRing.l0, if_pos (by omega), if_pos (by omega), rdJ]
      by_cases h0 : r.getD k 0 < 0
      · rw [if_pos h0]
      · rw [if_neg h0, if_pos (by unfold inR at hi; omega)]
theorem isRing_ev (hg : goodT l) (hr : r.length ≤ 1000) : Ev (fun K => drovewayref09_isRing.f K l r) (isRingR l r) := by
  by_cases h : r.length < 3
  · unfold isRingR
    rw [if_pos h]
    refine Ev.congr (f := fun _ => some ((0 : Int), false)) (fun K => ?_) (Ev.now _)
    unfold drovewayref09_isRing.f
    rw [if_pos (by omega)]
  · refine Ev.congr (fun K => ?_) (isRing_l0 hg hr (by omega) r.length 0 (by omega) (Nat.zero_le _) (fun j hj => absurd hj (Nat.not_lt_zero _)))
    unfold drovewayref09_isRing.f
    rw [if_neg (by omega)]
    rfl
theorem rIsRing_ev (n : Int) (hl : l.length ≤ 1000) (hr : r.length ≤ 1000) : Ev (fun k => drovewayref09_IsRing.f k n l r) (if tiesE n l = 0 then ((isRingR l r).1, (isRingR l r).2, 0) else (0, false, tiesE n l)) := by
  refine Ev.bind (f := fun k t => (if t = 0 then ((drovewayref09_isRing.f k l r).bind fun bt277 => (some (bt277.1, bt277.2, 0))) else (some (0, false, t)))) (Ties_ev (n := n) hl) ?_
  by_cases h : tiesE n l = 0
  · rw [if_pos h]
    refine Ev.congr (fun k => by rw [if_pos h]) ?_
    exact Ev.bind (f := fun _ bt277 => (some (bt277.1, bt277.2, (0 : Int)))) (isRing_ev (tiesE_good h) hr) (Ev.now _)
  · rw [if_neg h]
    exact Ev.congr (fun k => by rw [if_neg h]) (Ev.now _)
end
end Go.Proofs.Ytaegldcifhgnmaa.B

/- The specification's search for a ring of a size: the walk. (Printed by gen_q4.py.) -/
namespace Go.Proofs.Ytaegldcifhgnmaa.B
open Go.Proofs.Ytaegldcifhgnmaa.A
open Go.RowKit Go.Proofs.YtaegldcifhgnmaaW.PrintWords Go.Proofs.YtaegldcifhgnmaaW.PrintMore
set_option linter.unusedSimpArgs false

theorem bit_ask (y a : Nat) : (((y : Int) / 2 ^ a).tmod 2 == 1) = y.testBit a := by
  have e : ((y : Int) / 2 ^ a) = ((y / 2 ^ a : Nat) : Int) := by simp
  rw [e, Int.tmod_eq_emod_of_nonneg (Int.natCast_nonneg _), Nat.testBit_eq_decide_div_mod_eq]
  by_cases h : y / 2 ^ a % 2 = 1
  · have : ((y / 2 ^ a : Nat) : Int) % 2 = 1 := by omega
    rw [this, decide_eq_true h]; rfl
  · have : ((y / 2 ^ a : Nat) : Int) % 2 = 0 := by omega
    rw [this, decide_eq_false h]; rfl
theorem two_wrap {a : Nat} (h : a < 60) : IntKind.i64.wrap ((2 : Int) ^ a) = 2 ^ a := by rw [pow_cast]; exact wrap64_nat _ (Int.natCast_nonneg _) (by exact_mod_cast two_lt (show a < 62 by omega))
theorem or_one {met a : Nat} (hm : met < 2 ^ 60) (ha : a < 60) : bits .or .i64 (met : Int) (2 ^ a) = ((met ||| 2 ^ a : Nat) : Int) := by
  rw [pow_cast, or64 met (2 ^ a) (lt62 hm (by decide)) (two_lt (by omega))]
theorem rother_calls (t : S39) (v : Nat) (h0 : 0 ≤ t.f0) (h1 : 0 ≤ t.f1) (w : World) :
    Calls Try.prog 88 #[.agg #[.int .i64 t.f0, .int .i64 t.f1, .bool t.f2], .int .i64 v] w fun e w' => e = .returned (.int .i64 (match otherN t v with | some x => (x : Int) | none => -1)) ∧ Below w.heap.size w w' :=
  drovewayref09_other.calls t.f0 t.f1 t.f2 v _ w (other_eq h0 h1 v)

def RgPost (B : Nat) (S : Option (List Int)) (W : World) (e : Ending) (w' : World) : Prop :=
  ∃ v : Value, e = .returned v ∧ Kd.R (Kd.int .i64) 3 w' B (fun _ => True) v (S.getD []) ∧ (S = none → v = .slice none 0 0) ∧ (S ≠ none → ∃ b n c, v = .slice (some b) n c) ∧ Below W.heap.size W w'
def RgSaid (l : List S39) (one : Bool) (A : Option Addr) (c size B d : Nat) : Prop :=
  ∀ (now : List Int) (at_ met : Nat) (v : Value) (W : World), Kd.R (Kd.int .i64) 3 W B (fun _ => True) v now → B ≤ W.heap.size → now.length + d = size → now ≠ [] → at_ < 60 → met < 2 ^ 60 → Kd.C k39 W A l.length l →
    Calls Try.prog 77 #[.slice A l.length c, .int .i64 size, v, .int .i64 at_, .int .i64 met, .bool one] W (RgPost B (ringedR l one d now at_ met) W)
theorem row_some {w : World} {A : Option Addr} {n c1 B : Nat} {now : List Int} (h : Kd.R (Kd.int .i64) 3 w B (fun _ => True) (.slice A n c1) now) (hne : now ≠ []) : ∃ ad, A = some ad := by
  obtain ⟨A', c', e, _, hC⟩ := Kd.R_reads h
  have hl : 0 < now.length := List.length_pos_iff.mpr hne
  obtain ⟨ad, ha, _⟩ := Kd.at_int hC 0 (by omega) (by omega)
  injection e with e1
  exact ⟨ad, e1.trans ha⟩

set_option maxRecDepth 100000 in
set_option maxHeartbeats 1600000 in
theorem rg_zero (l : List S39) (hg : goodT l) (one : Bool) (A : Option Addr) (c size B : Nat) (hc : l.length ≤ c) (h9 : size ≤ 1000) : RgSaid l one A c size B 0 := by
  intro now at_ met v W hR hB hn hne hat hm hr
  obtain ⟨A2, c2, rfl, hc2, hC⟩ := Kd.R_reads hR
  rw [Nat.add_zero] at hn
  subst hn
  obtain ⟨k, hk⟩ := (isRing_ev hg h9).rounds
  have hsome := row_some hR hne
  have HR := Aside0.mk hR
  have HC := Aside0.mk hc
  have HCC := Aside0.mk hC
  have HC2 := Aside0.mk hc2
  have HA := Aside0.mk hr
  have HNE := Aside0.mk hsome
  obtain ⟨S, hS⟩ : ∃ S, ringedR l one 0 now at_ met = S := ⟨_, rfl⟩
  rw [hS]
  rw [ringedR] at hS
  generalize isRingR l now = Z at hk hS
  obtain ⟨fe, ok⟩ := Z
  dsimp only at hS
  have HK := Aside0.mk hk
  have HS := Aside0.mk hS
  clear hR hr hC hc2 hc hk hS hg hB hat hm hsome
  cases ok with
  | false =>
    go_enter Try.func77, Try.ntmps77
    go_wp2_with (go_at_call 64; refine (drovewayref09_isRing.calls k A c l A2 c2 now fe false _ HA.out HC.out HCC.out HC2.out HK.out).mono ?_; rintro e w2 ⟨rfl, hb2⟩; have HB2 := Aside0.mk hb2; clear hb2)
    go_ret
    have : S = none := by rw [← HS.out]; rfl
    subst this
    exact ⟨_, rfl, Kd.R_nil _ _ _ _ _, fun _ => rfl, fun h => absurd rfl h, HB2.out⟩
  | true =>
    cases one with
    | true =>
      cases hf : (fe == 1) with
      | false =>
        have HF := Aside0.mk hf
        go_enter Try.func77, Try.ntmps77
        go_wp2_with (go_at_call 64; refine (drovewayref09_isRing.calls k A c l A2 c2 now fe true _ HA.out HC.out HCC.out HC2.out HK.out).mono ?_; rintro e w2 ⟨rfl, hb2⟩; have HB2 := Aside0.mk hb2; clear hb2)
        go_ret
        have ha : askB true fe = false := by unfold askB; rw [if_pos rfl]; exact HF.out
        have : S = none := by rw [← HS.out, ha]; rfl
        subst this
        exact ⟨_, rfl, Kd.R_nil _ _ _ _ _, fun _ => rfl, fun h => absurd rfl h, HB2.out⟩
      | true =>
        have HF := Aside0.mk hf
        go_enter Try.func77, Try.ntmps77
        go_wp2_with (go_at_call 64; refine (drovewayref09_isRing.calls k A c l A2 c2 now fe true _ HA.out HC.out HCC.out HC2.out HK.out).mono ?_; rintro e w2 ⟨rfl, hb2⟩; have HB2 := Aside0.mk hb2; clear hb2)
        go_ret
        have ha : askB true fe = true := by unfold askB; rw [if_pos rfl]; exact HF.out
        have : S = some now := by rw [← HS.out, ha]; rfl
        subst this
        obtain ⟨ad, rfl⟩ := HNE.out
        exact ⟨_, rfl, Kd.R_below HR.out HB2.out, (fun h => by cases h), fun _ => ⟨ad, _, _, rfl⟩, HB2.out⟩
    | false =>
      cases hf : (Int.tmod fe 2 == 1) with
      | false =>
        have HF := Aside0.mk hf
        go_enter Try.func77, Try.ntmps77
        go_wp2_with (go_at_call 64; refine (drovewayref09_isRing.calls k A c l A2 c2 now fe true _ HA.out HC.out HCC.out HC2.out HK.out).mono ?_; rintro e w2 ⟨rfl, hb2⟩; have HB2 := Aside0.mk hb2; clear hb2)
        go_ret
        have ha : askB false fe = false := by unfold askB; rw [if_neg (by decide)]; exact HF.out
        have : S = none := by rw [← HS.out, ha]; rfl
        subst this
        exact ⟨_, rfl, Kd.R_nil _ _ _ _ _, fun _ => rfl, fun h => absurd rfl h, HB2.out⟩
      | true =>
        have HF := Aside0.mk hf
        go_enter Try.func77, Try.ntmps77
        go_wp2_with (go_at_call 64; refine (drovewayref09_isRing.calls k A c l A2 c2 now fe true _ HA.out HC.out HCC.out HC2.out HK.out).mono ?_; rintro e w2 ⟨rfl, hb2⟩; have HB2 := Aside0.mk hb2; clear hb2)
        go_ret
        have ha : askB false fe = true := by unfold askB; rw [if_neg (by decide)]; exact HF.out
        have : S = some now := by rw [← HS.out, ha]; rfl
        subst this
        obtain ⟨ad, rfl⟩ := HNE.out
        exact ⟨_, rfl, Kd.R_below HR.out HB2.out, (fun h => by cases h), fun _ => ⟨ad, _, _, rfl⟩, HB2.out⟩

set_option maxRecDepth 100000 in
set_option maxHeartbeats 3200000 in
theorem rg_step (l : List S39) (hg : goodT l) (hl : l.length ≤ 1000) (one : Bool) (A : Option Addr) (c size B d : Nat) (h9 : size ≤ 1000) (ih : RgSaid l one A c size B d) : RgSaid l one A c size B (d + 1) := by
  intro now at_ met v W hR hB hn hne hat hm hr
  obtain ⟨A2, c2, rfl, hc2, _⟩ := Kd.R_reads hR
  obtain ⟨ad2, rfl⟩ := row_some hR hne
  have hz : ((now.length : Int) == (size : Int)) = false := by rw [beq_eq_false_iff_ne]; omega
  have hz2 : ¬ (now.length : Int) = (size : Int) := by omega
  have HI := Aside0.mk ih
  have HB := Aside0.mk hB
  have HN := Aside0.mk hn
  have HM := Aside0.mk hm
  have HA := Aside0.mk hr
  have HG := Aside0.mk hg
  have HR := Aside0.mk hR
  obtain ⟨S, hS⟩ : ∃ S, ringedR l one (d + 1) now at_ met = S := ⟨_, rfl⟩
  rw [hS]
  rw [ringedR] at hS
  have HS := Aside0.mk hS
  have hq : now.length ≤ 1000 := by omega
  have hb1 : (0 : Int) ≤ (now.length : Int) := by omega
  have hb2 : (now.length : Int) ≤ (c2 : Int) := by omega
  obtain ⟨F, hF⟩ : ∃ F : Nat → Option (List Int), F = (fun i => match otherN (l.getD i z39) at_ with
    | none => none
    | some v => if met.testBit v = true then none else ringedR l one d (now ++ [(i : Int)]) v (met ||| 2 ^ v)) := ⟨_, rfl⟩
  have HFF : Aside0 (∀ i, F i = match otherN (l.getD i z39) at_ with
    | none => none
    | some v => if met.testBit v = true then none else ringedR l one d (now ++ [(i : Int)]) v (met ||| 2 ^ v)) := ⟨fun i => by rw [hF]⟩
  have HSF : Aside0 (firstN F l.length = S) := ⟨by rw [hF]; exact HS.out⟩
  clear hR hB hn hm hr hg hS HS hc2 hF ih
  go_enter Try.func77, Try.ntmps77
  go_wp2
  go_loopg [15, 16, 17] l.length (fun gg v15 _ _ wr => ∃ i : Nat, i ≤ l.length ∧ l.length - i ≤ gg ∧ v15 = .int .i64 i ∧ Aside0 (Below W.heap.size W wr) ∧ Aside0 (firstN F i = none))
  case atStart => exact ⟨0, Nat.zero_le _, by omega, rfl, ⟨Below.refl _ _⟩, ⟨rfl⟩⟩
  case round =>
    obtain ⟨i, hi, hgg, rfl, HBr, HF⟩ := hrel
    by_cases hlt : i < l.length
    · have hltz : (i : Int) < (l.length : Int) := by omega
      obtain ⟨ad, had, hx0, hx1, hx2⟩ := at_T39 (Kd.C_below HA.out HBr.out) (i : Int) (by omega) (by omega)
      subst had
      rw [Int.toNat_natCast] at hx0 hx1 hx2
      have hrd : rd_T39 l (i : Int) = l.getD i z39 := by simp [rd_T39]
      rw [hrd] at hx0 hx1 hx2
      have hts := HG.out _ (getD_mem z39 hlt)
      generalize hy : l.getD i z39 = y at hx0 hx1 hx2 hts
      obtain ⟨ya, yb, yf⟩ := y
      dsimp only at hx0 hx1 hx2 hts
      have HY := Aside0.mk hy
      have hts1 : 0 ≤ yb := by omega
      clear hy hrd
      cases ho : otherN ⟨ya, yb, yf⟩ at_ with
      | none =>
        have HO := Aside0.mk ho
        clear ho
        go_wp2_with (go_at_call 88; refine (rother_calls ⟨ya, yb, _⟩ at_ hts.1 hts1 _).mono ?_; rw [HO.out]; rintro e w3 ⟨rfl, hb3⟩; have HB3 := Aside0.mk (below_then HBr.out HBr.out.size hb3); clear hb3)
        go_roundg (l.length - (i + 1))
        case measure => omega
        case rel => exact ⟨i + 1, by omega, by omega, by go_num, HB3, ⟨by rw [firstN_succ_none HF.out, HFF.out, HY.out, HO.out]⟩⟩
      | some u =>
        have HO := Aside0.mk ho
        have hp := other_parts hts.1 hts.2.1 ho
        have hpu := hasB_iff.mp hp.2.1
        have hu : u < 60 := by dsimp only at hpu; omega
        have hu0 : ¬ (u : Int) < 0 := by omega
        have ku := bit_ask met u
        clear ho hp hpu
        cases ht : met.testBit u with
        | true =>
          have HT := Aside0.mk ht
          rw [ht] at ku
          clear ht
          go_wp2_with (go_at_call 88; refine (rother_calls ⟨ya, yb, _⟩ at_ hts.1 hts1 _).mono ?_; rw [HO.out]; rintro e w3 ⟨rfl, hb3⟩; have HB3 := Aside0.mk (below_then HBr.out HBr.out.size hb3); clear hb3)
          go_roundg (l.length - (i + 1))
          case measure => omega
          case rel => exact ⟨i + 1, by omega, by omega, by go_num, HB3, ⟨by rw [firstN_succ_none HF.out, HFF.out, HY.out, HO.out]; dsimp only; rw [if_pos HT.out]⟩⟩
        | false =>
          have HT := Aside0.mk ht
          rw [ht] at ku
          clear ht
          obtain ⟨R, hRR⟩ : ∃ R, ringedR l one d (now ++ [(i : Int)]) u (met ||| 2 ^ u) = R := ⟨_, rfl⟩
          have HFI : Aside0 (F i = R) := ⟨by rw [HFF.out, HY.out, HO.out]; dsimp only; rw [if_neg (by rw [HT.out]; exact Bool.false_ne_true)]; exact hRR⟩
          have HRR := Aside0.mk hRR
          clear hRR
          have hor := or_one HM.out hu
          have hwu := two_wrap hu
          go_must (go_wp2_with (go_at_call 88; refine (rother_calls ⟨ya, yb, _⟩ at_ hts.1 hts1 _).mono ?_; rw [HO.out]; rintro e w3 ⟨rfl, hb3⟩; have HB3 := Aside0.mk (below_then HBr.out HBr.out.size hb3); clear hb3))
          have HRW : Aside0 (Kd.R (Kd.int .i64) 3 w3.drew B (fun _ => True) (.slice (some ad2) now.length c2) now) := ⟨Kd.R_below HR.out (below_drew HB3.out)⟩
          have HBW : Aside0 (B ≤ w3.drew.heap.size) := ⟨Nat.le_trans HB.out HB3.out.size⟩
          have HREC : Aside0 (∀ (v4 : Value) (w4 : World), Kd.R (Kd.int .i64) 3 w4 B (fun _ => True) v4 (now ++ [(i : Int)]) → Below w3.drew.heap.size w3.drew w4 → Calls Try.prog 77 #[.slice (some ad) l.length c, .int .i64 size, v4, .int .i64 u, .int .i64 (met ||| 2 ^ u : Nat), .bool one] w4 (RgPost B R w4)) := ⟨fun v4 w4 h1 h2 => by
            rw [← HRR.out]
            exact HI.out (now ++ [(i : Int)]) u (met ||| 2 ^ u) v4 w4 h1 (Nat.le_trans HBW.out h2.size) (by rw [List.length_append, List.length_singleton]; have := HN.out; omega) (by simp) hu (or_lt HM.out (Nat.pow_lt_pow_right (by decide) hu)) (Kd.C_below HA.out ((below_drew HB3.out).trans (Below.mono h2 HB3.out.size)))⟩
          refine wp_region_noPanic ?_
          refine wp_region_held_drew (S := fun _ => True) (by kernel_rfl) trivial (fun hHeld => ?_)
          refine H_on 0 67 ?vn0 rfl rfl (by kernel_rfl) (by kernel_rfl) (by kernel_rfl) (by rfl) ?hn0 hHeld ?rn0
          case hn0 => (intro w hSw; (try dsimp only at hSw); go_simp <;> with_reducible rfl)
          simp only [Act.put, List.setIfInBounds_toArray, List.set_cons_zero, List.set_cons_succ]
          refine H_on 1 68 ?vn1 rfl rfl (by kernel_rfl) (by kernel_rfl) (by kernel_rfl) (by rfl) ?hn1 hHeld ?rn1
          case hn1 => (intro w hSw; (try dsimp only at hSw); go_simp <;> with_reducible rfl)
          simp only [Act.put, List.setIfInBounds_toArray, List.set_cons_zero, List.set_cons_succ]
          refine H_on 2 69 ?vn2 rfl rfl (by kernel_rfl) (by kernel_rfl) (by kernel_rfl) (by rfl) ?hn2 hHeld ?rn2
          case hn2 => (intro w hSw; (try dsimp only at hSw); go_simp <;> with_reducible rfl)
          simp only [Act.put, List.setIfInBounds_toArray, List.set_cons_zero, List.set_cons_succ]
          refine H_on 3 70 ?vn3 rfl rfl (by kernel_rfl) (by kernel_rfl) (by kernel_rfl) (by rfl) ?hn3 hHeld ?rn3
          case hn3 => (intro w hSw; (try dsimp only at hSw); go_simp <;> with_reducible rfl)
          simp only [Act.put, List.setIfInBounds_toArray, List.set_cons_zero, List.set_cons_succ]
          refine H_on 4 71 ?vn4 rfl rfl (by kernel_rfl) (by kernel_rfl) (by kernel_rfl) (by rfl) ?hn4 hHeld ?rn4
          case hn4 => (intro w hSw; (try dsimp only at hSw); go_simp <;> with_reducible rfl)
          simp only [Act.put, List.setIfInBounds_toArray, List.set_cons_zero, List.set_cons_succ]
          refine H_on 5 72 ?vn5 rfl rfl (by kernel_rfl) (by kernel_rfl) (by kernel_rfl) (by rfl) ?hn5 hHeld ?rn5
          case hn5 => (intro w hSw; (try dsimp only at hSw); go_simp <;> with_reducible rfl)
          simp only [Act.put, List.setIfInBounds_toArray, List.set_cons_zero, List.set_cons_succ]
          refine H_on 6 73 ?vn6 rfl rfl (by kernel_rfl) (by kernel_rfl) (by kernel_rfl) (by rfl) ?hn6 hHeld ?rn6
          case hn6 => (intro w hSw; (try dsimp only at hSw); go_simp <;> with_reducible rfl)
          simp only [Act.put, List.setIfInBounds_toArray, List.set_cons_zero, List.set_cons_succ]
          refine H_on 7 74 ?vn7 rfl rfl (by kernel_rfl) (by kernel_rfl) (by kernel_rfl) (by rfl) ?hn7 hHeld ?rn7
          case hn7 => (intro w hSw; (try dsimp only at hSw); go_simp <;> with_reducible rfl)
          simp only [Act.put, List.setIfInBounds_toArray, List.set_cons_zero, List.set_cons_succ]
          refine H_on 8 75 ?vn8 rfl rfl (by kernel_rfl) (by kernel_rfl) (by kernel_rfl) (by rfl) ?hn8 hHeld ?rn8
          case hn8 => (intro w hSw; (try dsimp only at hSw); go_simp <;> with_reducible rfl)
          simp only [Act.put, List.setIfInBounds_toArray, List.set_cons_zero, List.set_cons_succ]
          refine H_on 11 78 ?vn11 rfl rfl (by kernel_rfl) (by kernel_rfl) (by kernel_rfl) (by rfl) ?hn11 hHeld ?rn11
          case hn11 => (intro w hSw; (try dsimp only at hSw); go_simp <;> with_reducible rfl)
          simp only [Act.put, List.setIfInBounds_toArray, List.set_cons_zero, List.set_cons_succ]
          refine H_on 12 79 ?vn12 rfl rfl (by kernel_rfl) (by kernel_rfl) (by kernel_rfl) (by rfl) ?hn12 hHeld ?rn12
          case hn12 => (intro w hSw; (try dsimp only at hSw); go_simp <;> with_reducible rfl)
          simp only [Act.put, List.setIfInBounds_toArray, List.set_cons_zero, List.set_cons_succ]
          refine H_on 13 80 ?vn13 rfl rfl (by kernel_rfl) (by kernel_rfl) (by kernel_rfl) (by rfl) ?hn13 hHeld ?rn13
          case hn13 => (intro w hSw; (try dsimp only at hSw); go_simp <;> with_reducible rfl)
          simp only [Act.put, List.setIfInBounds_toArray, List.set_cons_zero, List.set_cons_succ]
          refine H_on 14 81 ?vn14 rfl rfl (by kernel_rfl) (by kernel_rfl) (by kernel_rfl) (by rfl) ?hn14 hHeld ?rn14
          case hn14 => (intro w hSw; (try dsimp only at hSw); go_simp <;> with_reducible rfl)
          simp only [Act.put, List.setIfInBounds_toArray, List.set_cons_zero, List.set_cons_succ]
          refine H_on 15 82 ?vn15 rfl rfl (by kernel_rfl) (by kernel_rfl) (by kernel_rfl) (by rfl) ?hn15 hHeld ?rn15
          case hn15 => (intro w hSw; (try dsimp only at hSw); go_simp <;> with_reducible rfl)
          simp only [Act.put, List.setIfInBounds_toArray, List.set_cons_zero, List.set_cons_succ]
          refine H_on 16 83 ?vn16 rfl rfl (by kernel_rfl) (by kernel_rfl) (by kernel_rfl) (by rfl) ?hn16 hHeld ?rn16
          case hn16 => (intro w hSw; (try dsimp only at hSw); go_simp <;> with_reducible rfl)
          simp only [Act.put, List.setIfInBounds_toArray, List.set_cons_zero, List.set_cons_succ]
          refine wpAnyH_ready (rs := [9]) (by kernel_rfl) (by simp) ?_
          refine AllReadyH.cons rfl (fun K hK => ?_) AllReadyH.nil
          go_simp
          refine hK.out _ _ trivial (fun hHeld => ?_)
          clear hK K
          try simp only [Act.put, List.setIfInBounds_toArray, List.set_cons_zero, List.set_cons_succ]
          refine wpAnyH_ready (rs := [10]) (by kernel_rfl) (by simp) ?_
          refine AllReadyH.cons rfl (fun K hK => ?_) AllReadyH.nil
          refine step_appendI (W := w3.drew) (B := B) (A1 := some ad2) (n := now.length) (c1 := c2) (now := now) (i : Int) (by rfl) _ _ rfl rfl rfl HRW.out HBW.out (by omega) ?_
          intro v4 w4 hR4 hb4
          have HR4 := Aside0.mk hR4
          have HB4 := Aside0.mk hb4
          clear hR4 hb4
          refine hK.out _ _ trivial (fun hHeld => ?_)
          clear hK K
          try simp only [Act.put, List.setIfInBounds_toArray, List.set_cons_zero, List.set_cons_succ]
          refine wpAnyH_ready (rs := [17]) (by kernel_rfl) (by simp) ?_
          refine AllReadyH.cons rfl (fun K hK => ?_) AllReadyH.nil
          go_simp
          refine (HREC.out v4 w4 HR4.out HB4.out).mono ?_
          rintro e w5 ⟨v5, rfl, hR5, hn5, hs5, hb5⟩
          have HR5 := Aside0.mk hR5
          have HN5 := Aside0.mk hn5
          have HS5 := Aside0.mk hs5
          have HB5 := Aside0.mk hb5
          clear hR5 hb5 hn5 hs5
          go_wp2_with fail
          refine hK.out _ _ trivial (fun hHeld => ?_)
          clear hK K
          try simp only [Act.put, List.setIfInBounds_toArray, List.set_cons_zero, List.set_cons_succ]
          refine H_on 18 17 ?vn18 rfl rfl (by kernel_rfl) (by kernel_rfl) (by kernel_rfl) (by rfl) ?hn18 hHeld ?rn18
          case hn18 => (intro w hSw; (try dsimp only at hSw); go_simp <;> with_reducible rfl)
          simp only [Act.put, List.setIfInBounds_toArray, List.set_cons_zero, List.set_cons_succ]
          refine wpAnyH_done (by kernel_rfl) ?_ _
          refine NoPanic.normal ?_
          have HBF : Aside0 (Below W.heap.size W w5) := ⟨((below_drew HB3.out).trans (Below.mono HB4.out HB3.out.size)).trans (Below.mono HB5.out (Nat.le_trans HB3.out.size HB4.out.size))⟩
          cases R with
          | some r =>
            obtain ⟨b5, n5, c5, hv5⟩ := HS5.out (by simp)
            subst hv5
            have hnil := fun (w : World) => run_neq_slice_nil_any w 28 3 (some b5) n5 c5 0 0 Try.underlying28
            go_wp2
            go_ret
            have hfin : S = some r := by rw [← HSF.out]; exact firstN_some hlt HF.out HFI.out
            subst hfin
            exact ⟨_, rfl, HR5.out, (fun h => by cases h), fun _ => ⟨_, _, _, rfl⟩, HBF.out⟩
          | none =>
            have hv5 := HN5.out rfl
            subst hv5
            have hnil := fun (w : World) => run_neq_slice_nil_any w 28 3 none 0 0 0 0 Try.underlying28
            go_wp2
            go_roundg (l.length - (i + 1))
            case measure => omega
            case rel => exact ⟨i + 1, by omega, by omega, by go_num, HBF, ⟨by rw [firstN_succ_none HF.out]; exact HFI.out⟩⟩
    · have hltz : ¬ (i : Int) < (l.length : Int) := by omega
      have him : i = l.length := by omega
      have HSN : Aside0 (S = none) := ⟨by rw [← HSF.out, ← him]; exact HF.out⟩
      go_wp2
      go_ret
      exact ⟨_, rfl, by rw [HSN.out]; exact Kd.R_nil _ _ _ _ _, fun _ => rfl, fun h => absurd HSN.out h, HBr.out⟩
theorem ringed_calls (l : List S39) (hg : goodT l) (hl : l.length ≤ 1000) (one : Bool) (A : Option Addr) (c size B : Nat) (hc : l.length ≤ c) (h9 : size ≤ 1000) : ∀ d, RgSaid l one A c size B d
  | 0 => rg_zero l hg one A c size B hc h9
  | d + 1 => rg_step l hg hl one A c size B d h9 (ringed_calls l hg hl one A c size B hc h9 d)
end Go.Proofs.Ytaegldcifhgnmaa.B

/- What the specification's Less computes (plain). -/
namespace Go.Proofs.Ytaegldcifhgnmaa.B
open Go.Proofs.Ytaegldcifhgnmaa.A
open Go.RowKit Go.Proofs.YtaegldcifhgnmaaW.PrintWords Go.Proofs.YtaegldcifhgnmaaW.PrintMore
theorem rdL (r : List Int) (i : Nat) : rd r (i : Int) = r.getD i 0 := by simp [rd]
theorem less_l0 (a b : List Int) (ha : a.length ≤ 1000) : ∀ d i, a.length - i = d → i ≤ a.length → i ≤ b.length → Ev (fun k => drovewayref09_Less.l0 k a b (i : Int)) (decide (cmpL (a.drop i) (b.drop i) < 0)) := by
  intro d
  induction d with
  | zero =>
    intro i hd hi hb
    have e : a.length = i := by omega
    refine Ev.step (f := fun k => drovewayref09_Less.j1 k a b (i : Int) false) (fun k => by rw [drovewayref09_Less.l0, if_neg (by omega)]) ?_
    refine Ev.step (f := fun _ => some (decide ((a.length : Int) < (b.length : Int)))) (fun k => by rw [drovewayref09_Less.j1, if_neg (by decide)]) ?_
    rw [cmpL_end e hb]
    by_cases h : (a.length : Int) < (b.length : Int)
    · rw [if_pos h, decide_eq_true h]; exact Ev.now _
    · rw [if_neg h, decide_eq_false h]; exact Ev.now _
  | succ d ih =>
    intro i hd hi hb
    have hlt : i < a.length := by omega
    by_cases hlb : i < b.length
    · refine Ev.step (f := fun k => drovewayref09_Less.j1 k a b (i : Int) true) (fun k => by rw [drovewayref09_Less.l0, if_pos (by omega), decide_eq_true (by omega)]) ?_
      rw [cmpL_drop hlt hlb]
      by_cases e : a.getD i 0 = b.getD i 0
      · rw [if_pos (by unfold cmpI; rw [e, if_neg (by omega), if_neg (by omega)])]
        refine Ev.step (fun k => ?_) (ih (i + 1) (by omega) (by omega) (by omega))
        rw [drovewayref09_Less.j1, if_pos rfl, if_pos (by omega), if_pos (by omega), if_pos (by omega), rdL, rdL, if_pos e, wrapS hlt (by omega)]
      · have hz : ¬ cmpI (a.getD i 0) (b.getD i 0) = 0 := by
          unfold cmpI
          split
          · omega
          · split <;> omega
        rw [if_neg hz]
        refine Ev.step (f := fun _ => some (decide (cmpI (a.getD i 0) (b.getD i 0) < 0))) (fun k => ?_) (Ev.now _)
        rw [drovewayref09_Less.j1, if_pos rfl, if_pos (by omega), if_pos (by omega), if_pos (by omega), rdL, rdL, if_neg e]
        congr 1
        rw [decide_eq_decide]
        unfold cmpI
        split
        · omega
        · split <;> omega
    · refine Ev.step (f := fun k => drovewayref09_Less.j1 k a b (i : Int) false) (fun k => by rw [drovewayref09_Less.l0, if_pos (by omega), decide_eq_false (by omega)]) ?_
      refine Ev.step (f := fun _ => some (decide ((a.length : Int) < (b.length : Int)))) (fun k => by rw [drovewayref09_Less.j1, if_neg (by decide)]) ?_
      rw [cmpL_gt hlt (by omega), decide_eq_false (by omega : ¬ (1 : Int) < 0), decide_eq_false (by omega)]
      exact Ev.now _
theorem less_ev (a b : List Int) (ha : a.length ≤ 1000) : Ev (fun k => drovewayref09_Less.f k a b) (lessB a b) :=
  less_l0 a b ha a.length 0 rfl (Nat.zero_le _) (Nat.zero_le _)
end Go.Proofs.Ytaegldcifhgnmaa.B

/- The specification's shortest ring: the walk. (Printed by gen_q5.py.) -/
namespace Go.Proofs.Ytaegldcifhgnmaa.B
open Go.Proofs.Ytaegldcifhgnmaa.A
open Go.RowKit Go.Proofs.YtaegldcifhgnmaaW.PrintWords Go.Proofs.YtaegldcifhgnmaaW.PrintMore
set_option linter.unusedSimpArgs false

theorem less_calls {W0 w : World} {B : Nat} {A1 A2 : Option Addr} {n1 c1 n2 c2 : Nat} {a b : List Int} (h1 : Kd.R (Kd.int .i64) 3 w B (fun _ => True) (.slice A1 n1 c1) a) (h2 : Kd.R (Kd.int .i64) 3 w B (fun _ => True) (.slice A2 n2 c2) b) (ha : a.length ≤ 1000) (X : Bool) (hX : lessB a b = X) (_hB : Below W0.heap.size W0 w) :
    Calls Try.prog 41 #[.slice A1 n1 c1, .slice A2 n2 c2] w fun e w' => e = .returned (.bool X) ∧ Below w.heap.size w w' := by
  obtain ⟨k, hk⟩ := (less_ev a b ha).rounds
  rw [hX] at hk
  obtain ⟨A1', c1', e1, hc1, hC1⟩ := Kd.R_reads h1
  obtain ⟨A2', c2', e2, hc2, hC2⟩ := Kd.R_reads h2
  injection e1 with e3 e4 e5
  injection e2 with e6 e7 e8
  subst e3 e4 e5 e6 e7 e8
  exact (drovewayref09_Less.calls k A1 c1 a A2 c2 b X w hC1 hc1 hC2 hc2 hk).mono fun _ _ ⟨p, q⟩ => ⟨p, q.below⟩

/-! ### shortest -/
theorem R_one (W : World) (i : Int) {B : Nat} (hB : B ≤ W.heap.size) : Kd.R (Kd.int .i64) 3 (W.alloc (.cells #[.int .i64 i] 3)) B (fun _ => True) (.slice (some ⟨W.heap.size, 0, none⟩) 1 1) [i] := by
  have h0 := Kd.R_nil (Kd.int .i64) 3 W B (fun _ => True)
  obtain ⟨h1, inner, hown, hr⟩ := h0
  have hin : inner = [] := by
    have := hown.1
    simpa using this
  subst hin
  have := Kd.R_appended (d := Kd.int .i64) (e := 3) (okp := fun _ => False) (w1 := W.alloc (.cells #[.int .i64 i] 3)) (v1 := .slice (some ⟨W.heap.size, 0, none⟩) 1 1) (p := i) (cs := [.int .i64 i]) h1 hr rfl (fun _ hk => hk.elim) (fun _ _ => trivial) (own_lit W B 3 .i64 [i] hB (by simp)) (grown_some (World.grownBy_alloc W _ _) _) (Or.inr ⟨W.heap.size, rfl, Nat.le_refl _⟩)
  exact this
theorem start_calls (l : List S39) (hg : goodT l) (hl : l.length ≤ 1000) (one : Bool) (A : Option Addr) (c k i a B : Nat) (hc : l.length ≤ c) (hk : 3 ≤ k) (hk9 : k ≤ 1000) (ha : a < 60) (W : World) (hB : B ≤ W.heap.size) (hr : Kd.C k39 (W.alloc (.cells #[.int .i64 (i : Int)] 3)) A l.length l) (R : Option (List Int)) (hR : startR l one k i a = R) :
    Calls Try.prog 77 #[.slice A l.length c, .int .i64 k, .slice (some ⟨W.heap.size, 0, none⟩) 1 1, .int .i64 a, .int .i64 ((2 : Int) ^ a), .bool one] (W.alloc (.cells #[.int .i64 (i : Int)] 3)) (RgPost B R (W.alloc (.cells #[.int .i64 (i : Int)] 3))) := by
  rw [← hR, pow_cast]
  exact ringed_calls l hg hl one A c k B hc hk9 (k - 1) [(i : Int)] a (2 ^ a) _ _ (R_one W i hB) (Nat.le_trans hB (by simp)) (by simp; omega) (by simp) ha (Nat.pow_lt_pow_right (by decide) ha) hr

set_option maxRecDepth 100000 in
set_option maxHeartbeats 3200000 in
theorem shortest_calls (l : List S39) (hg : goodT l) (hl : l.length ≤ 1000) (one : Bool) (A : Option Addr) (c n : Nat) (hc : l.length ≤ c) (h9 : n ≤ 800) (W : World) (hr : Kd.C k39 W A l.length l) :
    Calls Try.prog 51 #[.int .i64 n, .slice A l.length c, .bool one] W (RgPost W.heap.size (shortR l one n) W) := by
  have HA := Aside0.mk hr
  have HC := Aside0.mk hc
  have HG := Aside0.mk hg
  obtain ⟨S, hS⟩ : ∃ S, shortR l one n = S := ⟨_, rfl⟩
  have HS := Aside0.mk hS
  rw [hS]
  clear hr hc hg hS
  go_enter Try.func51, Try.ntmps51
  go_wp2
  go_loopg [7, 8, 9, 10] (n + 1) (fun gg v7 _ _ _ wr => ∃ k : Nat, 3 ≤ k ∧ n + 1 - k ≤ gg ∧ v7 = .int .i64 k ∧ k ≤ n + 3 ∧ Aside0 (Below W.heap.size W wr) ∧ Aside0 (firstN (sizeR l one) (min k (n + 1)) = none))
  case atStart => exact ⟨3, Nat.le_refl _, by omega, rfl, by omega, ⟨Below.refl _ _⟩, ⟨firstN_none _ fun i hi => by unfold sizeR; rw [if_neg (by omega)]⟩⟩
  case round =>
    obtain ⟨k, hk, hgg, rfl, hkn, HBr, HF⟩ := hrel
    by_cases hlt : k ≤ n
    · have hltz : (k : Int) ≤ (n : Int) := by omega
      have hk9 : k ≤ 1000 := by omega
      have HSK : Aside0 (∀ r, firstN (pairR l one k) l.length = some r → S = some r) := ⟨fun r h => by
        have := HF.out
        rw [show min k (n + 1) = k by omega] at this
        rw [← HS.out, shortR]
        exact firstN_some (by omega) this (by rw [sizeR, if_pos hk]; exact h)⟩
      go_wp2
      go_loopg [8, 9, 10] l.length (fun gg2 v8 _ _ wr => ∃ i : Nat, i ≤ l.length ∧ l.length - i ≤ gg2 ∧ v8 = .int .i64 i ∧ Aside0 (Below W.heap.size W wr) ∧ Aside0 (firstN (pairR l one k) i = none))
      case atStart => exact ⟨0, Nat.zero_le _, by omega, rfl, HBr, ⟨rfl⟩⟩
      case round =>
        clear HBr
        obtain ⟨i, hi, hgg2, rfl, HBr, HP⟩ := hrel
        by_cases hilt : i < l.length
        · have hiltz : (i : Int) < (l.length : Int) := by omega
          obtain ⟨ad, had, _⟩ := at_T39 HA.out (i : Int) (by omega) (by omega)
          subst had
          have hts := HG.out _ (getD_mem z39 hilt)
          obtain ⟨a, ha⟩ := Int.eq_ofNat_of_zero_le hts.1
          obtain ⟨b, hb⟩ := Int.eq_ofNat_of_zero_le (show 0 ≤ (l.getD i z39).f1 by omega)
          rw [ha, hb] at hts
          have ha60 : a < 60 := by omega
          have hb60 : b < 60 := by omega
          have HSO0 : Aside0 (∀ w', Below W.heap.size W w' → w'.cell? (ad.add (i * 3)) = some (.int .i64 (a : Int)) ∧ w'.cell? ⟨(ad.add (i * 3)).block, (ad.add (i * 3)).off + 1, none⟩ = some (.int .i64 (b : Int))) := ⟨fun w' h => by
            obtain ⟨ad', had, hx0, hx1, hx2⟩ := at_T39 (Kd.C_below HA.out h) (i : Int) (by omega) (by omega)
            cases had
            rw [Int.toNat_natCast] at hx0 hx1
            have hrd : rd_T39 l (i : Int) = l.getD i z39 := by simp [rd_T39]
            rw [hrd, ha] at hx0
            rw [hrd, hb] at hx1
            exact ⟨hx0, hx1⟩⟩
          obtain ⟨SS, hSS⟩ : ∃ SS : World → Prop, SS = (fun w' => w'.cell? (ad.add (i * 3)) = some (.int .i64 (a : Int)) ∧ w'.cell? ⟨(ad.add (i * 3)).block, (ad.add (i * 3)).off + 1, none⟩ = some (.int .i64 (b : Int))) := ⟨_, rfl⟩
          have HSS : Aside0 (∀ w', Below W.heap.size W w' → SS w') := ⟨fun w' h => by rw [hSS]; exact HSO0.out w' h⟩
          have HSO : Aside0 (∀ w', SS w' → w'.cell? (ad.add (i * 3)) = some (.int .i64 (a : Int)) ∧ w'.cell? ⟨(ad.add (i * 3)).block, (ad.add (i * 3)).off + 1, none⟩ = some (.int .i64 (b : Int))) := ⟨fun w' h => by rw [hSS] at h; exact h⟩
          obtain ⟨R1, hR1⟩ : ∃ R1, startR l one k i a = R1 := ⟨_, rfl⟩
          obtain ⟨R2, hR2⟩ : ∃ R2, startR l one k i b = R2 := ⟨_, rfl⟩
          have HPI : Aside0 (pairR l one k i = pickR R1 R2) := ⟨by unfold pairR; rw [ha, hb, Int.toNat_natCast, Int.toNat_natCast, hR1, hR2]⟩
          have HL1 : Aside0 (∀ x, R1 = some x → x.length ≤ 1000) := ⟨fun x h => by rw [← hR1] at h; have := ringedR_len _ _ _ _ _ _ _ h; simp at this; omega⟩
          have HR1 := Aside0.mk hR1
          have HR2 := Aside0.mk hR2
          have hwa := two_wrap ha60
          have hwb := two_wrap hb60
          have hi0 : (0 : Int) ≤ (i : Int) := by omega
          clear hR1 hR2 HSO0 hSS ha hb hts
          go_wp2
          refine wp_region_noPanic ?_
          refine wp_region_held_drew (S := SS) (by kernel_rfl) (HSS.out _ (below_drew HBr.out)) (fun hHeld => ?_)
          refine H_on 0 22 ?vp0 rfl rfl (by kernel_rfl) (by kernel_rfl) (by kernel_rfl) (by rfl) ?hp0 hHeld ?rp0
          case hp0 => (intro w hSw; obtain ⟨s0, s1⟩ := HSO.out w hSw; go_simp <;> with_reducible rfl)
          simp only [Act.put, List.setIfInBounds_toArray, List.set_cons_zero, List.set_cons_succ]
          refine H_on 1 23 ?vp1 rfl rfl (by kernel_rfl) (by kernel_rfl) (by kernel_rfl) (by rfl) ?hp1 hHeld ?rp1
          case hp1 => (intro w hSw; obtain ⟨s0, s1⟩ := HSO.out w hSw; go_simp <;> with_reducible rfl)
          simp only [Act.put, List.setIfInBounds_toArray, List.set_cons_zero, List.set_cons_succ]
          refine H_on 2 24 ?vp2 rfl rfl (by kernel_rfl) (by kernel_rfl) (by kernel_rfl) (by rfl) ?hp2 hHeld ?rp2
          case hp2 => (intro w hSw; obtain ⟨s0, s1⟩ := HSO.out w hSw; go_simp <;> with_reducible rfl)
          simp only [Act.put, List.setIfInBounds_toArray, List.set_cons_zero, List.set_cons_succ]
          refine H_on 4 26 ?vp4 rfl rfl (by kernel_rfl) (by kernel_rfl) (by kernel_rfl) (by rfl) ?hp4 hHeld ?rp4
          case hp4 => (intro w hSw; obtain ⟨s0, s1⟩ := HSO.out w hSw; go_simp <;> with_reducible rfl)
          simp only [Act.put, List.setIfInBounds_toArray, List.set_cons_zero, List.set_cons_succ]
          refine H_on 5 27 ?vp5 rfl rfl (by kernel_rfl) (by kernel_rfl) (by kernel_rfl) (by rfl) ?hp5 hHeld ?rp5
          case hp5 => (intro w hSw; obtain ⟨s0, s1⟩ := HSO.out w hSw; go_simp <;> with_reducible rfl)
          simp only [Act.put, List.setIfInBounds_toArray, List.set_cons_zero, List.set_cons_succ]
          refine H_on 6 28 ?vp6 rfl rfl (by kernel_rfl) (by kernel_rfl) (by kernel_rfl) (by rfl) ?hp6 hHeld ?rp6
          case hp6 => (intro w hSw; obtain ⟨s0, s1⟩ := HSO.out w hSw; go_simp <;> with_reducible rfl)
          simp only [Act.put, List.setIfInBounds_toArray, List.set_cons_zero, List.set_cons_succ]
          refine H_on 7 29 ?vp7 rfl rfl (by kernel_rfl) (by kernel_rfl) (by kernel_rfl) (by rfl) ?hp7 hHeld ?rp7
          case hp7 => (intro w hSw; obtain ⟨s0, s1⟩ := HSO.out w hSw; go_simp <;> with_reducible rfl)
          simp only [Act.put, List.setIfInBounds_toArray, List.set_cons_zero, List.set_cons_succ]
          refine H_on 8 30 ?vp8 rfl rfl (by kernel_rfl) (by kernel_rfl) (by kernel_rfl) (by rfl) ?hp8 hHeld ?rp8
          case hp8 => (intro w hSw; obtain ⟨s0, s1⟩ := HSO.out w hSw; go_simp <;> with_reducible rfl)
          simp only [Act.put, List.setIfInBounds_toArray, List.set_cons_zero, List.set_cons_succ]
          refine H_on 9 31 ?vp9 rfl rfl (by kernel_rfl) (by kernel_rfl) (by kernel_rfl) (by rfl) ?hp9 hHeld ?rp9
          case hp9 => (intro w hSw; obtain ⟨s0, s1⟩ := HSO.out w hSw; go_simp <;> with_reducible rfl)
          simp only [Act.put, List.setIfInBounds_toArray, List.set_cons_zero, List.set_cons_succ]
          refine H_on 10 32 ?vp10 rfl rfl (by kernel_rfl) (by kernel_rfl) (by kernel_rfl) (by rfl) ?hp10 hHeld ?rp10
          case hp10 => (intro w hSw; obtain ⟨s0, s1⟩ := HSO.out w hSw; go_simp <;> with_reducible rfl)
          simp only [Act.put, List.setIfInBounds_toArray, List.set_cons_zero, List.set_cons_succ]
          refine H_on 11 33 ?vp11 rfl rfl (by kernel_rfl) (by kernel_rfl) (by kernel_rfl) (by rfl) ?hp11 hHeld ?rp11
          case hp11 => (intro w hSw; obtain ⟨s0, s1⟩ := HSO.out w hSw; go_simp <;> with_reducible rfl)
          simp only [Act.put, List.setIfInBounds_toArray, List.set_cons_zero, List.set_cons_succ]
          refine H_on 12 34 ?vp12 rfl rfl (by kernel_rfl) (by kernel_rfl) (by kernel_rfl) (by rfl) ?hp12 hHeld ?rp12
          case hp12 => (intro w hSw; obtain ⟨s0, s1⟩ := HSO.out w hSw; go_simp <;> with_reducible rfl)
          simp only [Act.put, List.setIfInBounds_toArray, List.set_cons_zero, List.set_cons_succ]
          refine H_on 13 35 ?vp13 rfl rfl (by kernel_rfl) (by kernel_rfl) (by kernel_rfl) (by rfl) ?hp13 hHeld ?rp13
          case hp13 => (intro w hSw; obtain ⟨s0, s1⟩ := HSO.out w hSw; go_simp <;> with_reducible rfl)
          simp only [Act.put, List.setIfInBounds_toArray, List.set_cons_zero, List.set_cons_succ]
          refine H_on 14 36 ?vp14 rfl rfl (by kernel_rfl) (by kernel_rfl) (by kernel_rfl) (by rfl) ?hp14 hHeld ?rp14
          case hp14 => (intro w hSw; obtain ⟨s0, s1⟩ := HSO.out w hSw; go_simp <;> with_reducible rfl)
          simp only [Act.put, List.setIfInBounds_toArray, List.set_cons_zero, List.set_cons_succ]
          refine H_on 15 37 ?vp15 rfl rfl (by kernel_rfl) (by kernel_rfl) (by kernel_rfl) (by rfl) ?hp15 hHeld ?rp15
          case hp15 => (intro w hSw; obtain ⟨s0, s1⟩ := HSO.out w hSw; go_simp <;> with_reducible rfl)
          simp only [Act.put, List.setIfInBounds_toArray, List.set_cons_zero, List.set_cons_succ]
          refine wpAnyH_ready (rs := [3]) (by kernel_rfl) (by simp) ?_
          refine AllReadyH.cons rfl (fun K hK => ?_) AllReadyH.nil
          go_simp
          refine hK.out _ _ (HSS.out _ (below_alloc (below_drew HBr.out) _)) (fun hHeld => ?_)
          clear hK K
          try simp only [Act.put, List.setIfInBounds_toArray, List.set_cons_zero, List.set_cons_succ]
          refine wpAnyH_ready (rs := [16]) (by kernel_rfl) (by simp) ?_
          refine AllReadyH.cons rfl (fun K hK => ?_) AllReadyH.nil
          go_simp
          refine (start_calls l HG.out hl one (some ad) c k i a W.heap.size HC.out hk hk9 ha60 wr.drew (below_drew HBr.out).size (Kd.C_below HA.out (below_alloc (below_drew HBr.out) _)) _ HR1.out).mono ?_
          rintro e w5 ⟨v5, rfl, hR5, hn5, hs5, hb5⟩
          have HRv5 := Aside0.mk hR5
          have HNv5 := Aside0.mk hn5
          have HSv5 := Aside0.mk hs5
          have HBv5 : Aside0 (Below W.heap.size W w5) := ⟨below_then (below_alloc (below_drew HBr.out) _) (below_alloc (below_drew HBr.out) _).size hb5⟩
          have HLv5 := Aside0.mk hb5
          clear hR5 hb5 hn5 hs5
          go_wp2_with fail
          refine hK.out _ _ (HSS.out _ HBv5.out) (fun hHeld => ?_)
          clear hK K
          try simp only [Act.put, List.setIfInBounds_toArray, List.set_cons_zero, List.set_cons_succ]
          refine H_on 17 9 ?vp17 rfl rfl (by kernel_rfl) (by kernel_rfl) (by kernel_rfl) (by rfl) ?hp17 hHeld ?rp17
          case hp17 => (intro w hSw; obtain ⟨s0, s1⟩ := HSO.out w hSw; go_simp <;> with_reducible rfl)
          simp only [Act.put, List.setIfInBounds_toArray, List.set_cons_zero, List.set_cons_succ]
          refine wpAnyH_done (by kernel_rfl) ?_ _
          refine NoPanic.normal ?_
          go_wp2
          refine wp_region_noPanic ?_
          refine wp_region_held_drew (S := SS) (by kernel_rfl) (HSS.out _ (below_drew HBv5.out)) (fun hHeld => ?_)
          refine H_on 0 39 ?vq0 rfl rfl (by kernel_rfl) (by kernel_rfl) (by kernel_rfl) (by rfl) ?hq0 hHeld ?rq0
          case hq0 => (intro w hSw; obtain ⟨s0, s1⟩ := HSO.out w hSw; go_simp <;> with_reducible rfl)
          simp only [Act.put, List.setIfInBounds_toArray, List.set_cons_zero, List.set_cons_succ]
          refine H_on 1 40 ?vq1 rfl rfl (by kernel_rfl) (by kernel_rfl) (by kernel_rfl) (by rfl) ?hq1 hHeld ?rq1
          case hq1 => (intro w hSw; obtain ⟨s0, s1⟩ := HSO.out w hSw; go_simp <;> with_reducible rfl)
          simp only [Act.put, List.setIfInBounds_toArray, List.set_cons_zero, List.set_cons_succ]
          refine H_on 2 41 ?vq2 rfl rfl (by kernel_rfl) (by kernel_rfl) (by kernel_rfl) (by rfl) ?hq2 hHeld ?rq2
          case hq2 => (intro w hSw; obtain ⟨s0, s1⟩ := HSO.out w hSw; go_simp <;> with_reducible rfl)
          simp only [Act.put, List.setIfInBounds_toArray, List.set_cons_zero, List.set_cons_succ]
          refine H_on 4 43 ?vq4 rfl rfl (by kernel_rfl) (by kernel_rfl) (by kernel_rfl) (by rfl) ?hq4 hHeld ?rq4
          case hq4 => (intro w hSw; obtain ⟨s0, s1⟩ := HSO.out w hSw; go_simp <;> with_reducible rfl)
          simp only [Act.put, List.setIfInBounds_toArray, List.set_cons_zero, List.set_cons_succ]
          refine H_on 5 44 ?vq5 rfl rfl (by kernel_rfl) (by kernel_rfl) (by kernel_rfl) (by rfl) ?hq5 hHeld ?rq5
          case hq5 => (intro w hSw; obtain ⟨s0, s1⟩ := HSO.out w hSw; go_simp <;> with_reducible rfl)
          simp only [Act.put, List.setIfInBounds_toArray, List.set_cons_zero, List.set_cons_succ]
          refine H_on 6 45 ?vq6 rfl rfl (by kernel_rfl) (by kernel_rfl) (by kernel_rfl) (by rfl) ?hq6 hHeld ?rq6
          case hq6 => (intro w hSw; obtain ⟨s0, s1⟩ := HSO.out w hSw; go_simp <;> with_reducible rfl)
          simp only [Act.put, List.setIfInBounds_toArray, List.set_cons_zero, List.set_cons_succ]
          refine H_on 7 46 ?vq7 rfl rfl (by kernel_rfl) (by kernel_rfl) (by kernel_rfl) (by rfl) ?hq7 hHeld ?rq7
          case hq7 => (intro w hSw; obtain ⟨s0, s1⟩ := HSO.out w hSw; go_simp <;> with_reducible rfl)
          simp only [Act.put, List.setIfInBounds_toArray, List.set_cons_zero, List.set_cons_succ]
          refine H_on 8 47 ?vq8 rfl rfl (by kernel_rfl) (by kernel_rfl) (by kernel_rfl) (by rfl) ?hq8 hHeld ?rq8
          case hq8 => (intro w hSw; obtain ⟨s0, s1⟩ := HSO.out w hSw; go_simp <;> with_reducible rfl)
          simp only [Act.put, List.setIfInBounds_toArray, List.set_cons_zero, List.set_cons_succ]
          refine H_on 9 48 ?vq9 rfl rfl (by kernel_rfl) (by kernel_rfl) (by kernel_rfl) (by rfl) ?hq9 hHeld ?rq9
          case hq9 => (intro w hSw; obtain ⟨s0, s1⟩ := HSO.out w hSw; go_simp <;> with_reducible rfl)
          simp only [Act.put, List.setIfInBounds_toArray, List.set_cons_zero, List.set_cons_succ]
          refine H_on 10 49 ?vq10 rfl rfl (by kernel_rfl) (by kernel_rfl) (by kernel_rfl) (by rfl) ?hq10 hHeld ?rq10
          case hq10 => (intro w hSw; obtain ⟨s0, s1⟩ := HSO.out w hSw; go_simp <;> with_reducible rfl)
          simp only [Act.put, List.setIfInBounds_toArray, List.set_cons_zero, List.set_cons_succ]
          refine H_on 11 50 ?vq11 rfl rfl (by kernel_rfl) (by kernel_rfl) (by kernel_rfl) (by rfl) ?hq11 hHeld ?rq11
          case hq11 => (intro w hSw; obtain ⟨s0, s1⟩ := HSO.out w hSw; go_simp <;> with_reducible rfl)
          simp only [Act.put, List.setIfInBounds_toArray, List.set_cons_zero, List.set_cons_succ]
          refine H_on 12 51 ?vq12 rfl rfl (by kernel_rfl) (by kernel_rfl) (by kernel_rfl) (by rfl) ?hq12 hHeld ?rq12
          case hq12 => (intro w hSw; obtain ⟨s0, s1⟩ := HSO.out w hSw; go_simp <;> with_reducible rfl)
          simp only [Act.put, List.setIfInBounds_toArray, List.set_cons_zero, List.set_cons_succ]
          refine H_on 13 52 ?vq13 rfl rfl (by kernel_rfl) (by kernel_rfl) (by kernel_rfl) (by rfl) ?hq13 hHeld ?rq13
          case hq13 => (intro w hSw; obtain ⟨s0, s1⟩ := HSO.out w hSw; go_simp <;> with_reducible rfl)
          simp only [Act.put, List.setIfInBounds_toArray, List.set_cons_zero, List.set_cons_succ]
          refine H_on 14 53 ?vq14 rfl rfl (by kernel_rfl) (by kernel_rfl) (by kernel_rfl) (by rfl) ?hq14 hHeld ?rq14
          case hq14 => (intro w hSw; obtain ⟨s0, s1⟩ := HSO.out w hSw; go_simp <;> with_reducible rfl)
          simp only [Act.put, List.setIfInBounds_toArray, List.set_cons_zero, List.set_cons_succ]
          refine H_on 15 54 ?vq15 rfl rfl (by kernel_rfl) (by kernel_rfl) (by kernel_rfl) (by rfl) ?hq15 hHeld ?rq15
          case hq15 => (intro w hSw; obtain ⟨s0, s1⟩ := HSO.out w hSw; go_simp <;> with_reducible rfl)
          simp only [Act.put, List.setIfInBounds_toArray, List.set_cons_zero, List.set_cons_succ]
          refine wpAnyH_ready (rs := [3]) (by kernel_rfl) (by simp) ?_
          refine AllReadyH.cons rfl (fun K hK => ?_) AllReadyH.nil
          go_simp
          refine hK.out _ _ (HSS.out _ (below_alloc (below_drew HBv5.out) _)) (fun hHeld => ?_)
          clear hK K
          try simp only [Act.put, List.setIfInBounds_toArray, List.set_cons_zero, List.set_cons_succ]
          refine wpAnyH_ready (rs := [16]) (by kernel_rfl) (by simp) ?_
          refine AllReadyH.cons rfl (fun K hK => ?_) AllReadyH.nil
          go_simp
          refine (start_calls l HG.out hl one (some ad) c k i b W.heap.size HC.out hk hk9 hb60 w5.drew (below_drew HBv5.out).size (Kd.C_below HA.out (below_alloc (below_drew HBv5.out) _)) _ HR2.out).mono ?_
          rintro e w7 ⟨v7, rfl, hR5, hn5, hs5, hb5⟩
          have HRv7 := Aside0.mk hR5
          have HNv7 := Aside0.mk hn5
          have HSv7 := Aside0.mk hs5
          have HBv7 : Aside0 (Below W.heap.size W w7) := ⟨below_then (below_alloc (below_drew HBv5.out) _) (below_alloc (below_drew HBv5.out) _).size hb5⟩
          have HLv7 := Aside0.mk hb5
          clear hR5 hb5 hn5 hs5
          go_wp2_with fail
          refine hK.out _ _ (HSS.out _ HBv7.out) (fun hHeld => ?_)
          clear hK K
          try simp only [Act.put, List.setIfInBounds_toArray, List.set_cons_zero, List.set_cons_succ]
          refine H_on 17 10 ?vq17 rfl rfl (by kernel_rfl) (by kernel_rfl) (by kernel_rfl) (by rfl) ?hq17 hHeld ?rq17
          case hq17 => (intro w hSw; obtain ⟨s0, s1⟩ := HSO.out w hSw; go_simp <;> with_reducible rfl)
          simp only [Act.put, List.setIfInBounds_toArray, List.set_cons_zero, List.set_cons_succ]
          refine wpAnyH_done (by kernel_rfl) ?_ _
          refine NoPanic.normal ?_

          have HR9 : Aside0 (Kd.R (Kd.int .i64) 3 w7 W.heap.size (fun _ => True) v5 (R1.getD [])) := ⟨Kd.R_below HRv5.out (((below_alloc (below_drew (Below.refl w5.heap.size w5)) _)).trans (HLv7.out.mono (below_alloc (below_drew (Below.refl w5.heap.size w5)) _).size))⟩
          clear HSS HSO HRv5
          cases R1 with
          | none =>
            have hv5 := HNv5.out rfl
            subst hv5
            have hnil := fun (w : World) => run_neq_slice_nil_any w 28 3 none 0 0 0 0 Try.underlying28
            cases R2 with
            | none =>
              have hv7 := HNv7.out rfl
              subst hv7
              go_wp2
              go_roundg (l.length - (i + 1))
              case measure => omega
              case rel => exact ⟨i + 1, by omega, by omega, by go_num, HBv7, ⟨by rw [firstN_succ_none HP.out, HPI.out]; rfl⟩⟩
            | some y =>
              obtain ⟨b7, n7, c7, hv7⟩ := HSv7.out (by simp)
              subst hv7
              have hnil7 := fun (w : World) => run_neq_slice_nil_any w 28 3 (some b7) n7 c7 0 0 Try.underlying28
              go_wp2
              go_ret
              have hfin : S = some y := HSK.out _ (firstN_some hilt HP.out HPI.out)
              subst hfin
              exact ⟨_, rfl, HRv7.out, (fun h => by cases h), fun _ => ⟨_, _, _, rfl⟩, HBv7.out⟩
          | some x =>
            obtain ⟨b5, n5, c5, hv5⟩ := HSv5.out (by simp)
            subst hv5
            have hnil := fun (w : World) => run_neq_slice_nil_any w 28 3 (some b5) n5 c5 0 0 Try.underlying28
            cases R2 with
            | none =>
              have hv7 := HNv7.out rfl
              subst hv7
              have hnil7 := fun (w : World) => run_neq_slice_nil_any w 28 3 none 0 0 0 0 Try.underlying28
              have hnil8 := fun (w : World) => run_eql_slice_nil w 28 3 none 0 0 Try.underlying28
              go_wp2
              go_ret
              have hfin : S = some x := HSK.out _ (firstN_some hilt HP.out HPI.out)
              subst hfin
              exact ⟨_, rfl, HR9.out, (fun h => by cases h), fun _ => ⟨_, _, _, rfl⟩, HBv7.out⟩
            | some y =>
              obtain ⟨b7, n7, c7, hv7⟩ := HSv7.out (by simp)
              subst hv7
              have hnil7 := fun (w : World) => run_neq_slice_nil_any w 28 3 (some b7) n7 c7 0 0 Try.underlying28
              have hnil8 := fun (w : World) => run_eql_slice_nil w 28 3 (some b7) n7 c7 Try.underlying28
              cases hX : lessB x y with
              | true =>
                have HX := Aside0.mk hX
                clear hX
                go_wp2_with (go_at_call 41; refine (less_calls (W0 := W) HR9.out HRv7.out (HL1.out x rfl) true HX.out HBv7.out).mono ?_; rintro e w8 ⟨rfl, hb8⟩; have HB8 := Aside0.mk hb8; clear hb8)
                go_ret
                have hfin : S = some x := HSK.out _ (firstN_some hilt HP.out (by rw [HPI.out]; exact if_pos HX.out))
                subst hfin
                exact ⟨_, rfl, Kd.R_below HR9.out HB8.out, (fun h => by cases h), fun _ => ⟨_, _, _, rfl⟩, below_then HBv7.out HBv7.out.size HB8.out⟩
              | false =>
                have HX := Aside0.mk hX
                clear hX
                go_wp2_with (go_at_call 41; refine (less_calls (W0 := W) HR9.out HRv7.out (HL1.out x rfl) false HX.out HBv7.out).mono ?_; rintro e w8 ⟨rfl, hb8⟩; have HB8 := Aside0.mk hb8; clear hb8)
                go_ret
                have hfin : S = some y := HSK.out _ (firstN_some hilt HP.out (by rw [HPI.out]; exact if_neg (by rw [HX.out]; exact Bool.false_ne_true)))
                subst hfin
                exact ⟨_, rfl, Kd.R_below HRv7.out HB8.out, (fun h => by cases h), fun _ => ⟨_, _, _, rfl⟩, below_then HBv7.out HBv7.out.size HB8.out⟩
        · have hiltz : ¬ (i : Int) < (l.length : Int) := by omega
          have him : i = l.length := by omega
          have HSN : Aside0 (sizeR l one k = none) := ⟨by rw [sizeR, if_pos hk, ← him]; exact HP.out⟩
          go_wp2
          go_roundg (n + 1 - (k + 1))
          case measure => omega
          case rel =>
            refine ⟨k + 1, by omega, by omega, by go_num, by omega, HBr, ⟨?_⟩⟩
            have := HF.out
            rw [show min k (n + 1) = k by omega] at this
            rw [show min (k + 1) (n + 1) = k + 1 by omega, firstN_succ_none this]
            exact HSN.out
    · have hltz : ¬ (k : Int) ≤ (n : Int) := by omega
      have HZ0 : Aside0 (S = none) := ⟨by rw [← HS.out, shortR, ← HF.out, show min k (n + 1) = n + 1 by omega]⟩
      go_wp2
      go_ret
      exact ⟨_, rfl, by rw [HZ0.out]; exact Kd.R_nil _ _ _ _ _, fun _ => rfl, fun h => absurd HZ0.out h, HBr.out⟩
end Go.Proofs.Ytaegldcifhgnmaa.B

/- The specification's Ring and Spoilt: what they return. (Printed by gen_q6.py.) -/
namespace Go.Proofs.Ytaegldcifhgnmaa.B
open Go.Proofs.Ytaegldcifhgnmaa.A
open Go.RowKit Go.Proofs.YtaegldcifhgnmaaW.PrintWords Go.Proofs.YtaegldcifhgnmaaW.PrintMore

def rRingF (one : Bool) (n : Int) (l : List S39) : List Int × Int := if tiesE n l = 0 then ringZ (shortR l one n.toNat) else ([], tiesE n l)
theorem ties_calls (n : Int) (A : Option Addr) (c : Nat) (l : List S39) (w : World) (hr : Kd.C k39 w A l.length l) (hc : l.length ≤ c) (hl : l.length ≤ 1000) (E : Int) (hE : tiesE n l = E) :
    Calls Try.prog 24 #[.int .i64 n, .slice A l.length c] w fun e w' => e = .returned (.int .i64 E) ∧ Below w.heap.size w w' := by
  obtain ⟨k, hk⟩ := (Ties_ev (n := n) hl).rounds
  rw [hE] at hk
  exact (drovewayref09_Ties.calls k n A c l E w hr hc hk).mono fun _ _ ⟨p, q⟩ => ⟨p, q.below⟩

set_option maxRecDepth 100000 in
set_option maxHeartbeats 800000 in
theorem rRing_err (n : Int) (A : Option Addr) (c : Nat) (l : List S39) (w : World) (hr : Kd.C k39 w A l.length l) (hc : l.length ≤ c) (hl : l.length ≤ 1000) (E : Int) (h : tiesE n l = E) (h0 : E ≠ 0) :
    Calls Try.prog 21 #[.int .i64 n, .slice A l.length c] w (FoundPost ([], E) w) := by
  have HR := Aside0.mk hr
  have HC := Aside0.mk hc
  have HE := Aside0.mk h
  have hg := errne h0
  clear hr h h0 hc
  go_enter Try.func21, Try.ntmps21
  go_wp2_with (go_at_call 24; refine (ties_calls n A c l _ HR.out HC.out hl E HE.out).mono ?_; rintro e w' ⟨rfl, hb'⟩; have HB := Aside0.mk hb'; clear hb')
  go_ret2
  exact ⟨_, rfl, Kd.R_nil _ _ _ _ _, HB.out⟩
set_option maxRecDepth 100000 in
set_option maxHeartbeats 800000 in
theorem rRing_good (m : Nat) (A : Option Addr) (c : Nat) (l : List S39) (w : World) (hr : Kd.C k39 w A l.length l) (hc : l.length ≤ c) (h : tiesE m l = 0) :
    Calls Try.prog 21 #[.int .i64 m, .slice A l.length c] w (FoundPost (ringZ (shortR l false m)) w) := by
  have hm : m ≤ 800 := by have := (tiesE_parts h).1; omega
  have hl : l.length ≤ 1000 := by have := (tiesE_parts h).2.1; omega
  have HR := Aside0.mk hr
  have HC := Aside0.mk hc
  have HS := Aside0.mk (tiesE_good h)
  have HE := Aside0.mk h
  obtain ⟨S, hS⟩ : ∃ S, shortR l false m = S := ⟨_, rfl⟩
  have HSS := Aside0.mk hS
  rw [hS]
  clear hr h hS hc
  cases S with
  | none =>
    have hnil := fun (w : World) => run_eql_slice_nil w 28 3 none 0 0 Try.underlying28
    go_enter Try.func21, Try.ntmps21
    go_wp2_with (first
      | (go_at_call 24; refine (ties_calls m A c l _ HR.out HC.out hl 0 HE.out).mono ?_; rintro e w1 ⟨rfl, hb1⟩; have HB1 := Aside0.mk hb1; clear hb1)
      | (go_at_call 51; go_must (refine (shortest_calls l HS.out hl false A c m HC.out hm _ (Kd.C_below HR.out HB1.out)).mono ?_; rw [HSS.out]; rintro e w2 ⟨v2, rfl, hr2, hv0, hv1, hb2⟩; have HR2 := Aside0.mk (Kd.R_lower hr2 HB1.out.size); have HB2 := Aside0.mk (below_then HB1.out HB1.out.size hb2); clear hr2 hb2; obtain rfl := hv0 rfl; clear hv0 hv1)))
    go_ret2
    exact ⟨_, rfl, Kd.R_nil _ _ _ _ _, HB2.out⟩
  | some b =>
    go_enter Try.func21, Try.ntmps21
    go_wp2_with (first
      | (go_at_call 24; refine (ties_calls m A c l _ HR.out HC.out hl 0 HE.out).mono ?_; rintro e w1 ⟨rfl, hb1⟩; have HB1 := Aside0.mk hb1; clear hb1)
      | (go_at_call 51; go_must (refine (shortest_calls l HS.out hl false A c m HC.out hm _ (Kd.C_below HR.out HB1.out)).mono ?_; rw [HSS.out]; rintro e w2 ⟨v2, rfl, hr2, hv0, hv1, hb2⟩; have HR2 := Aside0.mk (Kd.R_lower hr2 HB1.out.size); have HB2 := Aside0.mk (below_then HB1.out HB1.out.size hb2); clear hr2 hb2; obtain ⟨ad, n2, c2, rfl⟩ := hv1 (by simp); have hnil := fun (w : World) => run_eql_slice_nil w 28 3 (some ad) n2 c2 Try.underlying28; clear hv0)))
    go_ret2
    exact ⟨_, rfl, HR2.out, HB2.out⟩
def drovewayref09_Ring.f (a0 : Int) (l1 : List S39) : Option (List Int × Int) := if l1.length ≤ 1000 then some (rRingF false a0 l1) else none
theorem drovewayref09_Ring.calls (a0 : Int) (A1 : Option Addr) (c1 : Nat) (l1 : List S39) (r1 : List Int) (r2 : Int) (w : World) (hr1 : Kd.C k39 w A1 l1.length l1) (hc1 : l1.length ≤ c1) (h : drovewayref09_Ring.f a0 l1 = some (r1, r2)) :
    Calls Try.prog 21 #[.int .i64 a0, .slice A1 l1.length c1] w fun e w' => ∃ v0_ : Value, e = .returned (.tuple #[v0_, .int .i64 r2]) ∧ Kd.R (Kd.int .i64) 3 w' w.heap.size (fun _ => True) v0_ r1 ∧ Below w.heap.size w w' := by
  unfold drovewayref09_Ring.f at h
  by_cases hl : l1.length ≤ 1000
  · rw [if_pos hl] at h
    have h := Option.some.inj h
    unfold rRingF at h
    by_cases h0 : tiesE a0 l1 = 0
    · rw [if_pos h0] at h
      have h1 := tiesE_parts h0
      obtain ⟨m, rfl⟩ : ∃ m : Nat, a0 = m := ⟨a0.toNat, by omega⟩
      rw [Int.toNat_natCast] at h
      have := rRing_good m A1 c1 l1 w hr1 hc1 h0
      rw [h] at this
      exact this
    · rw [if_neg h0] at h
      have := rRing_err a0 A1 c1 l1 w hr1 hc1 hl _ rfl h0
      rw [h] at this
      exact this
  · rw [if_neg hl] at h; exact absurd h (by simp)

set_option maxRecDepth 100000 in
set_option maxHeartbeats 800000 in
theorem rSpoilt_err (n : Int) (A : Option Addr) (c : Nat) (l : List S39) (w : World) (hr : Kd.C k39 w A l.length l) (hc : l.length ≤ c) (hl : l.length ≤ 1000) (E : Int) (h : tiesE n l = E) (h0 : E ≠ 0) :
    Calls Try.prog 29 #[.int .i64 n, .slice A l.length c] w (FoundPost ([], E) w) := by
  have HR := Aside0.mk hr
  have HC := Aside0.mk hc
  have HE := Aside0.mk h
  have hg := errne h0
  clear hr h h0 hc
  go_enter Try.func29, Try.ntmps29
  go_wp2_with (go_at_call 24; refine (ties_calls n A c l _ HR.out HC.out hl E HE.out).mono ?_; rintro e w' ⟨rfl, hb'⟩; have HB := Aside0.mk hb'; clear hb')
  go_ret2
  exact ⟨_, rfl, Kd.R_nil _ _ _ _ _, HB.out⟩
set_option maxRecDepth 100000 in
set_option maxHeartbeats 800000 in
theorem rSpoilt_good (m : Nat) (A : Option Addr) (c : Nat) (l : List S39) (w : World) (hr : Kd.C k39 w A l.length l) (hc : l.length ≤ c) (h : tiesE m l = 0) :
    Calls Try.prog 29 #[.int .i64 m, .slice A l.length c] w (FoundPost (ringZ (shortR l true m)) w) := by
  have hm : m ≤ 800 := by have := (tiesE_parts h).1; omega
  have hl : l.length ≤ 1000 := by have := (tiesE_parts h).2.1; omega
  have HR := Aside0.mk hr
  have HC := Aside0.mk hc
  have HS := Aside0.mk (tiesE_good h)
  have HE := Aside0.mk h
  obtain ⟨S, hS⟩ : ∃ S, shortR l true m = S := ⟨_, rfl⟩
  have HSS := Aside0.mk hS
  rw [hS]
  clear hr h hS hc
  cases S with
  | none =>
    have hnil := fun (w : World) => run_eql_slice_nil w 28 3 none 0 0 Try.underlying28
    go_enter Try.func29, Try.ntmps29
    go_wp2_with (first
      | (go_at_call 24; refine (ties_calls m A c l _ HR.out HC.out hl 0 HE.out).mono ?_; rintro e w1 ⟨rfl, hb1⟩; have HB1 := Aside0.mk hb1; clear hb1)
      | (go_at_call 51; go_must (refine (shortest_calls l HS.out hl true A c m HC.out hm _ (Kd.C_below HR.out HB1.out)).mono ?_; rw [HSS.out]; rintro e w2 ⟨v2, rfl, hr2, hv0, hv1, hb2⟩; have HR2 := Aside0.mk (Kd.R_lower hr2 HB1.out.size); have HB2 := Aside0.mk (below_then HB1.out HB1.out.size hb2); clear hr2 hb2; obtain rfl := hv0 rfl; clear hv0 hv1)))
    go_ret2
    exact ⟨_, rfl, Kd.R_nil _ _ _ _ _, HB2.out⟩
  | some b =>
    go_enter Try.func29, Try.ntmps29
    go_wp2_with (first
      | (go_at_call 24; refine (ties_calls m A c l _ HR.out HC.out hl 0 HE.out).mono ?_; rintro e w1 ⟨rfl, hb1⟩; have HB1 := Aside0.mk hb1; clear hb1)
      | (go_at_call 51; go_must (refine (shortest_calls l HS.out hl true A c m HC.out hm _ (Kd.C_below HR.out HB1.out)).mono ?_; rw [HSS.out]; rintro e w2 ⟨v2, rfl, hr2, hv0, hv1, hb2⟩; have HR2 := Aside0.mk (Kd.R_lower hr2 HB1.out.size); have HB2 := Aside0.mk (below_then HB1.out HB1.out.size hb2); clear hr2 hb2; obtain ⟨ad, n2, c2, rfl⟩ := hv1 (by simp); have hnil := fun (w : World) => run_eql_slice_nil w 28 3 (some ad) n2 c2 Try.underlying28; clear hv0)))
    go_ret2
    exact ⟨_, rfl, HR2.out, HB2.out⟩
def drovewayref09_Spoilt.f (a0 : Int) (l1 : List S39) : Option (List Int × Int) := if l1.length ≤ 1000 then some (rRingF true a0 l1) else none
theorem drovewayref09_Spoilt.calls (a0 : Int) (A1 : Option Addr) (c1 : Nat) (l1 : List S39) (r1 : List Int) (r2 : Int) (w : World) (hr1 : Kd.C k39 w A1 l1.length l1) (hc1 : l1.length ≤ c1) (h : drovewayref09_Spoilt.f a0 l1 = some (r1, r2)) :
    Calls Try.prog 29 #[.int .i64 a0, .slice A1 l1.length c1] w fun e w' => ∃ v0_ : Value, e = .returned (.tuple #[v0_, .int .i64 r2]) ∧ Kd.R (Kd.int .i64) 3 w' w.heap.size (fun _ => True) v0_ r1 ∧ Below w.heap.size w w' := by
  unfold drovewayref09_Spoilt.f at h
  by_cases hl : l1.length ≤ 1000
  · rw [if_pos hl] at h
    have h := Option.some.inj h
    unfold rRingF at h
    by_cases h0 : tiesE a0 l1 = 0
    · rw [if_pos h0] at h
      have h1 := tiesE_parts h0
      obtain ⟨m, rfl⟩ : ∃ m : Nat, a0 = m := ⟨a0.toNat, by omega⟩
      rw [Int.toNat_natCast] at h
      have := rSpoilt_good m A1 c1 l1 w hr1 hc1 h0
      rw [h] at this
      exact this
    · rw [if_neg h0] at h
      have := rSpoilt_err a0 A1 c1 l1 w hr1 hc1 hl _ rfl h0
      rw [h] at this
      exact this
  · rw [if_neg hl] at h; exact absurd h (by simp)
end Go.Proofs.Ytaegldcifhgnmaa.B

/- The program's Ring and Spoilt and the specification's are one (plain). -/
namespace Go.Proofs.Ytaegldcifhgnmaa.B
open Go.Proofs.Ytaegldcifhgnmaa.A
open Go.RowKit Go.Proofs.YtaegldcifhgnmaaW.PrintWords Go.Proofs.YtaegldcifhgnmaaW.PrintMore
section
variable {l : List S39}
theorem ring_same (n : Int) : ringF oddB n l = rRingF false n l := by
  unfold ringF rRingF
  by_cases h : tiesE n l = 0
  · rw [if_pos h, if_pos h, find_short (tiesE_good h) oddB false ask_odd]
  · rw [if_neg h, if_neg h]
theorem spoilt_same (n : Int) : ringF oneB n l = rRingF true n l := by
  unfold ringF rRingF
  by_cases h : tiesE n l = 0
  · rw [if_pos h, if_pos h, find_short (tiesE_good h) oneB true ask_one]
  · rw [if_neg h, if_neg h]
end
end Go.Proofs.Ytaegldcifhgnmaa.B

-- Printed by hprint.py (this claim's own program, over the kit's print.py) out of the translation and contracts by hand. Not trusted: Lean checks it.
namespace Go.Proofs.Ytaegldcifhgnmaa.PFeudsClans
open Go.Proofs.Ytaegldcifhgnmaa.A Go.Proofs.Ytaegldcifhgnmaa.B
open Go.RowKit Go.Proofs.YtaegldcifhgnmaaW.PrintWords Go.Proofs.YtaegldcifhgnmaaW.PrintLast Go.Proofs.YtaegldcifhgnmaaW.PrintMore
attribute [local go_sem] max2_int min2_int max_two min_two max_three min_three max_four min_four   -- for this text's walks alone
set_option linter.unusedVariables false
set_option linter.unusedSimpArgs false



def errW : Option Int → Value
  | none => .nilIface
  | some c => .iface 0 (.int .i64 c)
theorem errW_none : errW none = .nilIface := rfl
theorem errW_some (c : Int) : errW (some c) = .iface 0 (.int .i64 c) := rfl

-- the values' own types

end Go.Proofs.Ytaegldcifhgnmaa.PFeudsClans
