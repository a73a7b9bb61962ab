/- FeudsClasses holds: its code returns true and leaves what it was given as it was. Conditions: those of the given statement, none besides. -/
import Derived.Test.YtaegldcifhgnmaaZCa1
import Derived.Test.YtaegldcifhgnmaaProg
import Derived.Below
import Derived.Deep.Draws
import Derived.Deep.AppendLies
import Derived.Maps.AppendAt
import Derived.OwnWalk
import Derived.Laws.BytesArg
import Derived.Laws.MakeOwn
import Derived.Laws.OwnMore
import Derived.Deep.OwnRows
import Derived.Tactics
import Derived.Lib.ConvBytes
import Derived.Laws.Slices
import Derived.WalkKit
import Derived.KernelRfl
import Derived.RowKit3
import Derived.Deep.LoopGhost
import Derived.Deep.QuietTactic
import Derived.BigQuiet
import Derived.WideLaws
import Derived.Deep.DeepCutAuto
import Derived.Deep.CutBlock
import Derived.Deep.RegionHeld3
import Derived.Laws.Rows
import Derived.Lib.AppendStr
import Derived.ArgAppend
import Derived.Laws.IdiomCopy
import Derived.OrdersHeld
import Derived.Laws.BitsLemmas
import Derived.RowKit
import Derived.Test.YtaegldcifhgnmaaWWords
import Derived.Test.YtaegldcifhgnmaaWLast
import Derived.Test.YtaegldcifhgnmaaWTab
import Derived.Test.YtaegldcifhgnmaaWFour
import Derived.Test.YtaegldcifhgnmaaWQPut
import Derived.Test.YtaegldcifhgnmaaWApart
import Derived.Test.YtaegldcifhgnmaaWArr
import Derived.Test.YtaegldcifhgnmaaWZeros
import Derived.Test.YtaegldcifhgnmaaWFoot
import Derived.Test.YtaegldcifhgnmaaWKept
import Derived.Test.YtaegldcifhgnmaaWShare
import Derived.Test.YtaegldcifhgnmaaWN
import Derived.Test.YtaegldcifhgnmaaWFootNe
import Derived.Test.YtaegldcifhgnmaaWAt
import Derived.Test.YtaegldcifhgnmaaWEqStruct
import Derived.Test.YtaegldcifhgnmaaWRepsOne
import Derived.Test.YtaegldcifhgnmaaWInv
import Derived.Test.YtaegldcifhgnmaaWInvWords
import Derived.Test.YtaegldcifhgnmaaWGuard
import Derived.Test.YtaegldcifhgnmaaWNEv
import Derived.Test.YtaegldcifhgnmaaWMore
import Derived.Deep.Slices
import Derived.ChangeSame
import Derived.Test.YtaegldcifhgnmaaRows
import Derived.ProofKit
import Derived.OpenShut
import Derived.ShutString
import Derived.ChangeOld
import Derived.SizedLaws
import Derived.Test.YtaegldcifhgnmaaWSized
/- How many ways come from one another by switching (plain). -/
namespace Go.Proofs.Ytaegldcifhgnmaa.B
open Go.Proofs.Ytaegldcifhgnmaa.A
open Go.RowKit Go.Proofs.YtaegldcifhgnmaaW.PrintWords Go.Proofs.YtaegldcifhgnmaaW.PrintMore
section
variable {l : List S39} {n : Nat}
/-! ### numbers by their bits -/
def bitsB (f : Nat → Bool) : Nat → Nat
  | 0 => 0
  | n + 1 => bitsB f n ||| (if f n = true then 2 ^ n else 0)
theorem bitsB_bit (f : Nat → Bool) : ∀ n v, (bitsB f n).testBit v = (decide (v < n) && f v)
  | 0, v => by rw [bitsB, Nat.zero_testBit, decide_eq_false (Nat.not_lt_zero v)]; rfl
  | n + 1, v => by
    rw [bitsB, Nat.testBit_or, bitsB_bit f n v]
    by_cases e : v = n
    · subst e
      rw [decide_eq_false (Nat.lt_irrefl v), decide_eq_true (Nat.lt_succ_self v), Bool.false_and, Bool.false_or, Bool.true_and]
      cases f v with
      | true => rw [if_pos rfl, tb_two, beq_self_eq_true]
      | false => rw [if_neg (by decide), Nat.zero_testBit]
    · have h2 : (if f n = true then 2 ^ n else 0).testBit v = false := by
        split
        · rw [tb_two, beq_eq_false_iff_ne]; exact e
        · exact Nat.zero_testBit v
      rw [h2, Bool.or_false]
      congr 1
      rw [decide_eq_decide]; omega
theorem bitsB_lt (f : Nat → Bool) : ∀ n, bitsB f n < 2 ^ n
  | 0 => Nat.one_pos
  | n + 1 => by
    rw [bitsB]
    have := bitsB_lt f n
    have h2 : 2 ^ n < 2 ^ (n + 1) := Nat.pow_lt_pow_right (by decide) (Nat.lt_succ_self n)
    refine or_lt (by omega) ?_
    split
    · exact h2
    · exact Nat.two_pow_pos _
/-! ### sets without some drovers -/
def normB (lb : Nat → Bool) (k s : Nat) : Bool := (List.range k).all fun v => !(lb v && s.testBit v)
theorem norm_iff {lb : Nat → Bool} {k s : Nat} : normB lb k s = true ↔ ∀ v, v < k → lb v = true → s.testBit v = false := by
  unfold normB
  rw [List.all_eq_true]
  constructor
  · intro h v hv hl
    have := h v (List.mem_range.mpr hv)
    rw [hl, Bool.true_and] at this
    simpa using this
  · intro h v hv
    cases hl : lb v with
    | false => rfl
    | true => rw [h v (List.mem_range.mp hv) hl]; rfl
theorem normB_succ (lb : Nat → Bool) (k s : Nat) : normB lb (k + 1) s = (normB lb k s && !(lb k && s.testBit k)) := by
  unfold normB
  rw [List.range_succ, List.all_append, List.all_cons, List.all_nil, Bool.and_true]
theorem norm_count (lb : Nat → Bool) : ∀ k, ((List.range (2 ^ k)).filter (normB lb k)).length = 2 ^ ((List.range k).filter fun v => !lb v).length
  | 0 => rfl
  | k + 1 => by
    have ih := norm_count lb k
    have e : 2 ^ (k + 1) = 2 ^ k + 2 ^ k := by rw [Nat.pow_succ]; omega
    rw [e, List.range_add, List.filter_append, List.length_append]
    have h1 : (List.range (2 ^ k)).filter (normB lb (k + 1)) = (List.range (2 ^ k)).filter (normB lb k) := List.filter_congr fun s hs => by
      rw [normB_succ, tb_big (List.mem_range.mp hs) (Nat.le_refl k), Bool.and_false]
      exact Bool.and_true _
    have h2 : ∀ s, s < 2 ^ k → normB lb (k + 1) (2 ^ k + s) = (normB lb k s && !lb k) := fun s hs => by
      have e2 := Nat.two_pow_add_eq_or_of_lt hs 1
      rw [Nat.mul_one] at e2
      rw [normB_succ, e2, Nat.testBit_or, tb_two, beq_self_eq_true, Bool.true_or, Bool.and_true]
      congr 1
      unfold normB
      rw [Bool.eq_iff_iff, List.all_eq_true, List.all_eq_true]
      refine forall_congr' fun v => imp_congr_right fun hv => ?_
      have hvk := List.mem_range.mp hv
      have : (v == k) = false := by rw [beq_eq_false_iff_ne]; omega
      rw [Nat.testBit_or, tb_two, this, Bool.false_or]
    rw [h1, ih, List.filter_map, List.length_map, List.range_succ, List.filter_append, List.length_append]
    cases hl : lb k with
    | true =>
      have h3 : (List.range (2 ^ k)).filter (normB lb (k + 1) ∘ fun x => 2 ^ k + x) = [] := List.filter_eq_nil_iff.mpr fun s hs => by
        show ¬ normB lb (k + 1) (2 ^ k + s) = true
        rw [h2 s (List.mem_range.mp hs), hl]
        cases normB lb k s <;> decide
      have h4 : [k].filter (fun v => !lb v) = [] := by simp [hl]
      rw [h3, h4]; rfl
    | false =>
      have h3 : (List.range (2 ^ k)).filter (normB lb (k + 1) ∘ fun x => 2 ^ k + x) = (List.range (2 ^ k)).filter (normB lb k) := List.filter_congr fun s hs => by
        show normB lb (k + 1) (2 ^ k + s) = _
        rw [h2 s (List.mem_range.mp hs), hl]
        exact Bool.and_true _
      have h4 : [k].filter (fun v => !lb v) = [k] := by simp [hl]
      rw [h3, ih, h4, List.length_singleton, Nat.pow_succ]; omega

/-! ### ways -/
/-- The feuds of the ties switched by a set, as a number. -/
def patN (l : List S39) (s : Nat) : Nat := bitsB (fun i => (swT s (l.getD i z39)).f2) l.length
/-- A number's bits, as they are asked for. -/
def asL (l : List S39) (x : Nat) : List Bool := (List.range l.length).map fun i => x.testBit i
theorem asL_get {x i : Nat} (hi : i < l.length) : (asL l x).getD i false = x.testBit i := by
  unfold asL
  rw [List.getD_eq_getElem?_getD, List.getElem?_map, List.getElem?_range hi]; rfl
theorem same_pat {x s : Nat} (hx : x < 2 ^ l.length) : sameB l (asL l x) s = true ↔ patN l s = x := by
  unfold sameB sameK
  rw [List.all_eq_true]
  constructor
  · intro h
    refine Nat.eq_of_testBit_eq fun i => ?_
    unfold patN
    rw [bitsB_bit]
    by_cases hi : i < l.length
    · have := h i (List.mem_range.mpr hi)
      unfold sameT at this
      rw [asL_get hi, beq_iff_eq] at this
      rw [decide_eq_true hi, this]; rfl
    · rw [decide_eq_false hi, tb_big hx (by omega)]; rfl
  · intro h i hi
    have hil := List.mem_range.mp hi
    unfold sameT
    rw [asL_get hil, beq_iff_eq, ← h]
    unfold patN
    rw [bitsB_bit, decide_eq_true hil]; rfl
/-- The set with the same ways that has none of those that are the least of their classes. -/
def nfN (n : Nat) (l : List S39) (s : Nat) : Nat := bitsB (fun v => s.testBit v != s.testBit (atF anyT l l.length v)) n
theorem nf_bit {s v : Nat} (hv : v < n) : (nfN n l s).testBit v = (s.testBit v != s.testBit (atF anyT l l.length v)) := by
  unfold nfN
  rw [bitsB_bit, decide_eq_true hv]; rfl
theorem cross_f2 (t : S39) (s : Nat) : (swT s t).f2 = (t.f2 != crossB t s) := rfl
theorem nf_pat (hl : okN n l) (s : Nat) : patN l (nfN n l s) = patN l s := by
  refine Nat.eq_of_testBit_eq fun i => ?_
  unfold patN
  rw [bitsB_bit, bitsB_bit]
  by_cases hi : i < l.length
  · congr 1
    rw [cross_f2, cross_f2]
    congr 1
    have ht := getD_mem (l := l) z39 hi
    have hb := hl _ ht
    unfold crossB
    rw [nf_bit (by omega), nf_bit (by omega), atF_same (conn_tie (q := anyT) ht rfl)]
    cases s.testBit (l.getD i z39).f0.toNat <;> cases s.testBit (l.getD i z39).f1.toNat <;> cases s.testBit (atF anyT l l.length (l.getD i z39).f1.toNat) <;> rfl
  · rw [decide_eq_false hi]; rfl
theorem nf_norm (hl : okN n l) (s : Nat) : normB (leastB anyT n l) n (nfN n l s) = true := norm_iff.mpr fun v hv hle => by
  rw [nf_bit hv, (atF_is hl hv).mpr ⟨hle, conn_refl v⟩, bne_self_eq_false]
theorem pat_inj (hl : okN n l) {s s' : Nat} (hs : s < 2 ^ n) (hs' : s' < 2 ^ n) (hn : normB (leastB anyT n l) n s = true) (hn' : normB (leastB anyT n l) n s' = true) (h : patN l s = patN l s') : s = s' := by
  have hc : ∀ t ∈ l, crossB t s = crossB t s' := fun t ht => by
    obtain ⟨i, hi, e⟩ := List.getElem_of_mem ht
    have hg : l.getD i z39 = t := by rw [List.getD_eq_getElem?_getD, List.getElem?_eq_getElem hi, e]; rfl
    have hb : (patN l s).testBit i = (patN l s').testBit i := by rw [h]
    unfold patN at hb
    rw [bitsB_bit, bitsB_bit, decide_eq_true hi, Bool.true_and, Bool.true_and, hg, cross_f2, cross_f2] at hb
    revert hb
    cases t.f2 <;> cases crossB t s <;> cases crossB t s' <;> decide
  have hclo : ∀ u, Clo anyT l fun v => (s.testBit u != s'.testBit u) = (s.testBit v != s'.testBit v) := fun u t ht _ => by
    have := hc t ht
    unfold crossB at this
    show (_ = (s.testBit _ != s'.testBit _)) ↔ (_ = (s.testBit _ != s'.testBit _))
    have e : (s.testBit t.f0.toNat != s'.testBit t.f0.toNat) = (s.testBit t.f1.toNat != s'.testBit t.f1.toNat) := by
      revert this
      cases s.testBit t.f0.toNat <;> cases s.testBit t.f1.toNat <;> cases s'.testBit t.f0.toNat <;> cases s'.testBit t.f1.toNat <;> decide
    rw [e]
  refine Nat.eq_of_testBit_eq fun v => ?_
  by_cases hv : v < n
  · obtain ⟨u, hu, hle, hcn⟩ := least_of (q := anyT) hl hv
    have h1 := hcn _ (hclo u) rfl
    rw [norm_iff.mp hn u (by omega) hle, norm_iff.mp hn' u (by omega) hle] at h1
    revert h1
    cases s.testBit v <;> cases s'.testBit v <;> decide
  · rw [tb_big hs (by omega), tb_big hs' (by omega)]
def wayB (n : Nat) (l : List S39) (x : Nat) : Bool := (sameN n l (asL l x)).isSome
theorem way_iff {x : Nat} (hx : x < 2 ^ l.length) : wayB n l x = true ↔ ∃ s, s < 2 ^ n ∧ patN l s = x := by
  unfold wayB sameN
  rw [List.find?_isSome]
  constructor
  · rintro ⟨s, h1, h2⟩
    exact ⟨s, List.mem_range.mp h1, (same_pat hx).mp h2⟩
  · rintro ⟨s, h1, h2⟩
    exact ⟨s, List.mem_range.mpr h1, (same_pat hx).mpr h2⟩
theorem ways_count (h8 : n ≤ 8) (hl : okN n l) : ((List.range (2 ^ l.length)).filter (wayB n l)).length = 2 ^ (n - (groupsF anyT n l).length) := by
  have hperm : (((List.range (2 ^ n)).filter (normB (leastB anyT n l) n)).map (patN l)).Perm ((List.range (2 ^ l.length)).filter (wayB n l)) := by
    refine (List.perm_ext_iff_of_nodup ?_ (List.nodup_range.filter _)).mpr fun x => ?_
    · refine List.pairwise_map.mpr ((List.nodup_range.filter (normB (leastB anyT n l) n)).imp_of_mem fun {a b} ha hb hne => fun e => hne ?_)
      obtain ⟨a1, a2⟩ := List.mem_filter.mp ha
      obtain ⟨b1, b2⟩ := List.mem_filter.mp hb
      exact pat_inj hl (List.mem_range.mp a1) (List.mem_range.mp b1) a2 b2 e
    · rw [List.mem_map, List.mem_filter, List.mem_range]
      constructor
      · rintro ⟨s, hs, rfl⟩
        have hx : patN l s < 2 ^ l.length := bitsB_lt _ _
        exact ⟨hx, (way_iff hx).mpr ⟨s, List.mem_range.mp (List.mem_filter.mp hs).1, rfl⟩⟩
      · rintro ⟨hx, hw⟩
        obtain ⟨s, _, rfl⟩ := (way_iff hx).mp hw
        exact ⟨nfN n l s, List.mem_filter.mpr ⟨List.mem_range.mpr (bitsB_lt _ _), nf_norm hl s⟩, nf_pat hl s⟩
  rw [← hperm.length_eq, List.length_map, norm_count]
  congr 1
  have hg : (groupsF anyT n l).length = ((List.range n).filter (leastB anyT n l)).length := by
    rw [groups_eq h8 hl]
    unfold groupsC
    rw [List.length_map, Nat.sub_zero, ← List.range_eq_range']
  have hsum : ∀ (L : List Nat) (p : Nat → Bool), (L.filter p).length + (L.filter fun v => !p v).length = L.length := fun L p => by
    induction L with
    | nil => rfl
    | cons b L ih =>
      rw [List.filter_cons, List.filter_cons]
      cases p b
      · rw [if_neg (by decide), if_pos (by decide), List.length_cons, List.length_cons]; omega
      · rw [if_pos rfl, if_neg (by decide), List.length_cons, List.length_cons]; omega
  have := hsum (List.range n) (leastB anyT n l)
  rw [List.length_range, ← hg] at this
  omega
end
end Go.Proofs.Ytaegldcifhgnmaa.B

-- Printed by hprint.py (this claim's own program, over the kit's print.py) out of the translation and contracts by hand. Not trusted: Lean checks it.
namespace Go.Proofs.Ytaegldcifhgnmaa.PFeudsClasses
open Go.Proofs.Ytaegldcifhgnmaa.A Go.Proofs.Ytaegldcifhgnmaa.B
open Go.RowKit Go.Proofs.YtaegldcifhgnmaaW.PrintWords Go.Proofs.YtaegldcifhgnmaaW.PrintLast Go.Proofs.YtaegldcifhgnmaaW.PrintMore
attribute [local go_sem] max2_int min2_int max_two min_two max_three min_three max_four min_four   -- for this text's walks alone
set_option linter.unusedVariables false
set_option linter.unusedSimpArgs false



def errW : Option Int → Value
  | none => .nilIface
  | some c => .iface 0 (.int .i64 c)
theorem errW_none : errW none = .nilIface := rfl
theorem errW_some (c : Int) : errW (some c) = .iface 0 (.int .i64 c) := rfl

theorem info4 : (Try.prog.info? 4).map (fun i => (i.zero, i.size, i.bytes)) = some (some (.bool false), 1, 1) := by kernel_rfl
-- the values' own types

end Go.Proofs.Ytaegldcifhgnmaa.PFeudsClasses

-- Printed by hprint.py (this claim's own program, over the kit's print.py) out of the translation and contracts by hand. Not trusted: Lean checks it.
namespace Go.Proofs.Ytaegldcifhgnmaa.PFeudsClasses
open Go.Proofs.Ytaegldcifhgnmaa.A Go.Proofs.Ytaegldcifhgnmaa.B
open Go.RowKit Go.Proofs.YtaegldcifhgnmaaW.PrintWords Go.Proofs.YtaegldcifhgnmaaW.PrintLast Go.Proofs.YtaegldcifhgnmaaW.PrintMore
attribute [local go_sem] max2_int min2_int max_two min_two max_three min_three max_four min_four   -- for this text's walks alone
set_option linter.unusedVariables false
set_option linter.unusedSimpArgs false

-- by hand: function 16 (drovewaylaw09_few)

-- by hand: function 17 (drovewaylaw09_alive)

-- by hand: function 24 (drovewayref09_Ties)

-- by hand: function 30 (feuds_Same)

-- by hand: function 32 (feuds_Classes)

-- by hand: function 34 (feuds_Switch)

-- by hand: function 42 (drovewayref09_Groups)

/-! ### drovewaylaw09_FeudsClasses: function 11 -/
mutual
def drovewaylaw09_FeudsClasses.j0 : Nat → Int → List (S39) → Bool → Option (Bool)
  | 0, _, _, _ => none
  | k + 1, x0, x1, x25 => if x25 = true then ((drovewaylaw09_alive.f).bind fun t103 => (some t103)) else ((feuds_Classes.f x0 x1).bind fun bt104 => ((drovewayref09_Groups.f k x0 x1).bind fun t106 => (if bt104.2 = 0 then (if 0 ≤ (wrap64 ((wrap64 ((x1.length : Int) - x0)) + t106)) then (drovewaylaw09_FeudsClasses.j1 k x0 x1 t106 (bt104.1 != (shl .i64 1 (wrap64 ((wrap64 ((x1.length : Int) - x0)) + t106))))) else (none)) else (drovewaylaw09_FeudsClasses.j1 k x0 x1 t106 true))))
def drovewaylaw09_FeudsClasses.j1 : Nat → Int → List (S39) → Int → Bool → Option (Bool)
  | 0, _, _, _, _ => none
  | k + 1, x0, x1, x7, x48 => if x48 = true then (some false) else (if (x1.length : Int) > 8 then ((drovewaylaw09_alive.f).bind fun t107 => (some t107)) else (drovewaylaw09_FeudsClasses.l0 k x0 x1 x7 0 0))
def drovewaylaw09_FeudsClasses.l0 : Nat → Int → List (S39) → Int → Int → Int → Option (Bool)
  | 0, _, _, _, _, _ => none
  | k + 1, x0, x1, x7, x8, x9 => if x9 < (shl .i64 1 (x1.length : Int)) then (drovewaylaw09_FeudsClasses.l1 k x0 x1 x7 x8 x9 ([] : List Bool) 0) else (if 0 ≤ (wrap64 (x0 - x7)) then (if x8 = (shl .i64 1 (wrap64 (x0 - x7))) then ((drovewaylaw09_alive.f).bind fun t108 => (some t108)) else (some false)) else (none))
def drovewaylaw09_FeudsClasses.l1 : Nat → Int → List (S39) → Int → Int → Int → List Bool → Int → Option (Bool)
  | 0, _, _, _, _, _, _, _ => none
  | k + 1, x0, x1, x7, x8, x9, x10, x11 => if x11 < (x1.length : Int) then (if 0 ≤ x11 then (if x10.length < 140737488355328 then (drovewaylaw09_FeudsClasses.l1 k x0 x1 x7 x8 x9 (x10 ++ [((Int.tmod (shr .i64 x9 x11) 2) == 1)]) (wrap64 (x11 + 1))) else (none)) else (none)) else ((feuds_Same.f x0 x1 x10).bind fun bt112 => (if bt112.2 = 0 then ((feuds_Switch.f x0 x1 bt112.1).bind fun bt114 => (if bt114.2 = 0 then (drovewaylaw09_FeudsClasses.j4 k x0 x1 x7 (wrap64 (x8 + 1)) x9 x10 bt114.1 ((bt114.1.length : Int) != (x1.length : Int))) else (drovewaylaw09_FeudsClasses.j4 k x0 x1 x7 (wrap64 (x8 + 1)) x9 x10 bt114.1 true))) else (if bt112.2 = 10 then (drovewaylaw09_FeudsClasses.l0 k x0 x1 x7 x8 (wrap64 (x9 + 1))) else (some false))))
def drovewaylaw09_FeudsClasses.j4 : Nat → Int → List (S39) → Int → Int → Int → List Bool → List (S39) → Bool → Option (Bool)
  | 0, _, _, _, _, _, _, _, _ => none
  | k + 1, x0, x1, x7, x8, x9, x10, x14, x102 => if x102 = true then (some false) else (drovewaylaw09_FeudsClasses.l2 k x0 x1 x7 x8 x9 x10 x14 0)
def drovewaylaw09_FeudsClasses.l2 : Nat → Int → List (S39) → Int → Int → Int → List Bool → List (S39) → Int → Option (Bool)
  | 0, _, _, _, _, _, _, _, _ => none
  | k + 1, x0, x1, x7, x8, x9, x10, x14, x16 => if x16 < (x1.length : Int) then (if 0 ≤ x16 then (if x16 < (x14.length : Int) then (if x16 < (x10.length : Int) then (if (((rd_T39 x14 x16).f2) != (rdOf false x10 x16)) = true then (some false) else (drovewaylaw09_FeudsClasses.l2 k x0 x1 x7 x8 x9 x10 x14 (wrap64 (x16 + 1)))) else (none)) else (none)) else (none)) else (drovewaylaw09_FeudsClasses.l0 k x0 x1 x7 x8 (wrap64 (x9 + 1)))
end
def drovewaylaw09_FeudsClasses.f (k : Nat) (a0 : Int) (l1 : List (S39)) : Option (Bool) := (drovewaylaw09_few.f l1 ([] : List Int)).bind fun t101 => (if t101 = true then ((drovewayref09_Ties.f k a0 l1).bind fun t102 => (drovewaylaw09_FeudsClasses.j0 k a0 l1 (t102 != 0))) else (drovewaylaw09_FeudsClasses.j0 k a0 l1 true))
theorem drovewaylaw09_FeudsClasses.mono_l : ∀ k, (∀ y0 y1 y2, LeO (drovewaylaw09_FeudsClasses.j0 k y0 y1 y2) (drovewaylaw09_FeudsClasses.j0 (k + 1) y0 y1 y2)) ∧ (∀ y0 y1 y2 y3, LeO (drovewaylaw09_FeudsClasses.j1 k y0 y1 y2 y3) (drovewaylaw09_FeudsClasses.j1 (k + 1) y0 y1 y2 y3)) ∧ (∀ y0 y1 y2 y3 y4, LeO (drovewaylaw09_FeudsClasses.l0 k y0 y1 y2 y3 y4) (drovewaylaw09_FeudsClasses.l0 (k + 1) y0 y1 y2 y3 y4)) ∧ (∀ y0 y1 y2 y3 y4 y5 y6, LeO (drovewaylaw09_FeudsClasses.l1 k y0 y1 y2 y3 y4 y5 y6) (drovewaylaw09_FeudsClasses.l1 (k + 1) y0 y1 y2 y3 y4 y5 y6)) ∧ (∀ y0 y1 y2 y3 y4 y5 y6 y7, LeO (drovewaylaw09_FeudsClasses.j4 k y0 y1 y2 y3 y4 y5 y6 y7) (drovewaylaw09_FeudsClasses.j4 (k + 1) y0 y1 y2 y3 y4 y5 y6 y7)) ∧ (∀ y0 y1 y2 y3 y4 y5 y6 y7, LeO (drovewaylaw09_FeudsClasses.l2 k y0 y1 y2 y3 y4 y5 y6 y7) (drovewaylaw09_FeudsClasses.l2 (k + 1) y0 y1 y2 y3 y4 y5 y6 y7))
  | 0 => ⟨fun _ _ _ r h => by simp [drovewaylaw09_FeudsClasses.j0] at h, fun _ _ _ _ r h => by simp [drovewaylaw09_FeudsClasses.j1] at h, fun _ _ _ _ _ r h => by simp [drovewaylaw09_FeudsClasses.l0] at h, fun _ _ _ _ _ _ _ r h => by simp [drovewaylaw09_FeudsClasses.l1] at h, fun _ _ _ _ _ _ _ _ r h => by simp [drovewaylaw09_FeudsClasses.j4] at h, fun _ _ _ _ _ _ _ _ r h => by simp [drovewaylaw09_FeudsClasses.l2] at h⟩
  | k + 1 => by
    obtain ⟨ih0, ih1, ih2, ih3, ih4, ih5⟩ := drovewaylaw09_FeudsClasses.mono_l k
    refine ⟨?_, ?_, ?_, ?_, ?_, ?_⟩
    · intro y0 y1 y2
      unfold drovewaylaw09_FeudsClasses.j0
      repeat' first
      | (with_reducible exact ih0 _ _ _)
      | (with_reducible exact ih1 _ _ _ _)
      | (with_reducible exact ih2 _ _ _ _ _)
      | (with_reducible exact ih3 _ _ _ _ _ _ _)
      | (with_reducible exact ih4 _ _ _ _ _ _ _ _)
      | (with_reducible exact ih5 _ _ _ _ _ _ _ _)
      | (with_reducible exact drovewayref09_Groups.mono _ _ _)
      | (with_reducible exact drovewayref09_Ties.mono _ _ _)
      | (with_reducible exact LeO.refl _)
      | (with_reducible exact LeO.none _)
      | (with_reducible refine LeO.ite ?_ ?_)
      | (with_reducible refine LeO.bind ?_ (fun _ => ?_))
      | exact ih0 _ _ _
      | exact ih1 _ _ _ _
      | exact ih2 _ _ _ _ _
      | exact ih3 _ _ _ _ _ _ _
      | exact ih4 _ _ _ _ _ _ _ _
      | exact ih5 _ _ _ _ _ _ _ _
      | exact drovewayref09_Groups.mono _ _ _
      | exact drovewayref09_Ties.mono _ _ _
      | exact LeO.none _
      | refine LeO.ite ?_ ?_
      | refine LeO.bind ?_ (fun _ => ?_)
    · intro y0 y1 y2 y3
      unfold drovewaylaw09_FeudsClasses.j1
      repeat' first
      | (with_reducible exact ih0 _ _ _)
      | (with_reducible exact ih1 _ _ _ _)
      | (with_reducible exact ih2 _ _ _ _ _)
      | (with_reducible exact ih3 _ _ _ _ _ _ _)
      | (with_reducible exact ih4 _ _ _ _ _ _ _ _)
      | (with_reducible exact ih5 _ _ _ _ _ _ _ _)
      | (with_reducible exact drovewayref09_Groups.mono _ _ _)
      | (with_reducible exact drovewayref09_Ties.mono _ _ _)
      | (with_reducible exact LeO.refl _)
      | (with_reducible exact LeO.none _)
      | (with_reducible refine LeO.ite ?_ ?_)
      | (with_reducible refine LeO.bind ?_ (fun _ => ?_))
      | exact ih0 _ _ _
      | exact ih1 _ _ _ _
      | exact ih2 _ _ _ _ _
      | exact ih3 _ _ _ _ _ _ _
      | exact ih4 _ _ _ _ _ _ _ _
      | exact ih5 _ _ _ _ _ _ _ _
      | exact drovewayref09_Groups.mono _ _ _
      | exact drovewayref09_Ties.mono _ _ _
      | exact LeO.none _
      | refine LeO.ite ?_ ?_
      | refine LeO.bind ?_ (fun _ => ?_)
    · intro y0 y1 y2 y3 y4
      unfold drovewaylaw09_FeudsClasses.l0
      repeat' first
      | (with_reducible exact ih0 _ _ _)
      | (with_reducible exact ih1 _ _ _ _)
      | (with_reducible exact ih2 _ _ _ _ _)
      | (with_reducible exact ih3 _ _ _ _ _ _ _)
      | (with_reducible exact ih4 _ _ _ _ _ _ _ _)
      | (with_reducible exact ih5 _ _ _ _ _ _ _ _)
      | (with_reducible exact drovewayref09_Groups.mono _ _ _)
      | (with_reducible exact drovewayref09_Ties.mono _ _ _)
      | (with_reducible exact LeO.refl _)
      | (with_reducible exact LeO.none _)
      | (with_reducible refine LeO.ite ?_ ?_)
      | (with_reducible refine LeO.bind ?_ (fun _ => ?_))
      | exact ih0 _ _ _
      | exact ih1 _ _ _ _
      | exact ih2 _ _ _ _ _
      | exact ih3 _ _ _ _ _ _ _
      | exact ih4 _ _ _ _ _ _ _ _
      | exact ih5 _ _ _ _ _ _ _ _
      | exact drovewayref09_Groups.mono _ _ _
      | exact drovewayref09_Ties.mono _ _ _
      | exact LeO.none _
      | refine LeO.ite ?_ ?_
      | refine LeO.bind ?_ (fun _ => ?_)
    · intro y0 y1 y2 y3 y4 y5 y6
      unfold drovewaylaw09_FeudsClasses.l1
      repeat' first
      | (with_reducible exact ih0 _ _ _)
      | (with_reducible exact ih1 _ _ _ _)
      | (with_reducible exact ih2 _ _ _ _ _)
      | (with_reducible exact ih3 _ _ _ _ _ _ _)
      | (with_reducible exact ih4 _ _ _ _ _ _ _ _)
      | (with_reducible exact ih5 _ _ _ _ _ _ _ _)
      | (with_reducible exact drovewayref09_Groups.mono _ _ _)
      | (with_reducible exact drovewayref09_Ties.mono _ _ _)
      | (with_reducible exact LeO.refl _)
      | (with_reducible exact LeO.none _)
      | (with_reducible refine LeO.ite ?_ ?_)
      | (with_reducible refine LeO.bind ?_ (fun _ => ?_))
      | exact ih0 _ _ _
      | exact ih1 _ _ _ _
      | exact ih2 _ _ _ _ _
      | exact ih3 _ _ _ _ _ _ _
      | exact ih4 _ _ _ _ _ _ _ _
      | exact ih5 _ _ _ _ _ _ _ _
      | exact drovewayref09_Groups.mono _ _ _
      | exact drovewayref09_Ties.mono _ _ _
      | exact LeO.none _
      | refine LeO.ite ?_ ?_
      | refine LeO.bind ?_ (fun _ => ?_)
    · intro y0 y1 y2 y3 y4 y5 y6 y7
      unfold drovewaylaw09_FeudsClasses.j4
      repeat' first
      | (with_reducible exact ih0 _ _ _)
      | (with_reducible exact ih1 _ _ _ _)
      | (with_reducible exact ih2 _ _ _ _ _)
      | (with_reducible exact ih3 _ _ _ _ _ _ _)
      | (with_reducible exact ih4 _ _ _ _ _ _ _ _)
      | (with_reducible exact ih5 _ _ _ _ _ _ _ _)
      | (with_reducible exact drovewayref09_Groups.mono _ _ _)
      | (with_reducible exact drovewayref09_Ties.mono _ _ _)
      | (with_reducible exact LeO.refl _)
      | (with_reducible exact LeO.none _)
      | (with_reducible refine LeO.ite ?_ ?_)
      | (with_reducible refine LeO.bind ?_ (fun _ => ?_))
      | exact ih0 _ _ _
      | exact ih1 _ _ _ _
      | exact ih2 _ _ _ _ _
      | exact ih3 _ _ _ _ _ _ _
      | exact ih4 _ _ _ _ _ _ _ _
      | exact ih5 _ _ _ _ _ _ _ _
      | exact drovewayref09_Groups.mono _ _ _
      | exact drovewayref09_Ties.mono _ _ _
      | exact LeO.none _
      | refine LeO.ite ?_ ?_
      | refine LeO.bind ?_ (fun _ => ?_)
    · intro y0 y1 y2 y3 y4 y5 y6 y7
      unfold drovewaylaw09_FeudsClasses.l2
      repeat' first
      | (with_reducible exact ih0 _ _ _)
      | (with_reducible exact ih1 _ _ _ _)
      | (with_reducible exact ih2 _ _ _ _ _)
      | (with_reducible exact ih3 _ _ _ _ _ _ _)
      | (with_reducible exact ih4 _ _ _ _ _ _ _ _)
      | (with_reducible exact ih5 _ _ _ _ _ _ _ _)
      | (with_reducible exact drovewayref09_Groups.mono _ _ _)
      | (with_reducible exact drovewayref09_Ties.mono _ _ _)
      | (with_reducible exact LeO.refl _)
      | (with_reducible exact LeO.none _)
      | (with_reducible refine LeO.ite ?_ ?_)
      | (with_reducible refine LeO.bind ?_ (fun _ => ?_))
      | exact ih0 _ _ _
      | exact ih1 _ _ _ _
      | exact ih2 _ _ _ _ _
      | exact ih3 _ _ _ _ _ _ _
      | exact ih4 _ _ _ _ _ _ _ _
      | exact ih5 _ _ _ _ _ _ _ _
      | exact drovewayref09_Groups.mono _ _ _
      | exact drovewayref09_Ties.mono _ _ _
      | exact LeO.none _
      | refine LeO.ite ?_ ?_
      | refine LeO.bind ?_ (fun _ => ?_)
theorem drovewaylaw09_FeudsClasses.mono : ∀ a0 a1 k, LeO (drovewaylaw09_FeudsClasses.f k a0 a1) (drovewaylaw09_FeudsClasses.f (k + 1) a0 a1) := by
  intro a0 a1 k
  obtain ⟨ih0, ih1, ih2, ih3, ih4, ih5⟩ := drovewaylaw09_FeudsClasses.mono_l k
  unfold drovewaylaw09_FeudsClasses.f
  repeat' first
      | (with_reducible exact ih0 _ _ _)
      | (with_reducible exact ih1 _ _ _ _)
      | (with_reducible exact ih2 _ _ _ _ _)
      | (with_reducible exact ih3 _ _ _ _ _ _ _)
      | (with_reducible exact ih4 _ _ _ _ _ _ _ _)
      | (with_reducible exact ih5 _ _ _ _ _ _ _ _)
      | (with_reducible exact drovewayref09_Groups.mono _ _ _)
      | (with_reducible exact drovewayref09_Ties.mono _ _ _)
      | (with_reducible exact LeO.refl _)
      | (with_reducible exact LeO.none _)
      | (with_reducible refine LeO.ite ?_ ?_)
      | (with_reducible refine LeO.bind ?_ (fun _ => ?_))
      | exact ih0 _ _ _
      | exact ih1 _ _ _ _
      | exact ih2 _ _ _ _ _
      | exact ih3 _ _ _ _ _ _ _
      | exact ih4 _ _ _ _ _ _ _ _
      | exact ih5 _ _ _ _ _ _ _ _
      | exact drovewayref09_Groups.mono _ _ _
      | exact drovewayref09_Ties.mono _ _ _
      | exact LeO.none _
      | refine LeO.ite ?_ ?_
      | refine LeO.bind ?_ (fun _ => ?_)
set_option maxHeartbeats 8000000 in
set_option maxRecDepth 100000 in
theorem drovewaylaw09_FeudsClasses.calls (k : Nat) (a0 : Int) (A1 : Option Addr) (c1 : Nat) (l1 : List (S39)) (r : Bool) (w : World) (hr1 : Kd.C k39 w A1 l1.length l1) (hc1 : l1.length ≤ c1) (h : drovewaylaw09_FeudsClasses.f k a0 l1 = some r) :
    Calls Try.prog 11 #[.int .i64 a0, .slice A1 l1.length c1] w fun e w' => e = .returned (.bool r) ∧ Below w.heap.size w w' := by
  have HR1 := Aside0.mk hr1
  have HC1 := Aside0.mk hc1
  clear hr1 hc1
  have HB := Aside0.mk (Below.refl w.heap.size w)
  have H : ((drovewaylaw09_few.f l1 ([] : List Int)).bind fun t101 => (if t101 = true then ((drovewayref09_Ties.f k a0 l1).bind fun t102 => (drovewaylaw09_FeudsClasses.j0 k a0 l1 (t102 != 0))) else (drovewaylaw09_FeudsClasses.j0 k a0 l1 true))) = some r := h
  clear h
  have HC3 := Aside0.mk H
  clear H
  go_enter Try.func11, Try.ntmps11
  go_upto_region 1 with (fail)
  repeat (go_quiet (fail); go_upto_region 1 with (fail))
  go_cut [25] (fun v25 wc => ∃ (kq : Nat) (x25_2 : Bool), v25 = .bool x25_2 ∧ Aside0 (drovewaylaw09_FeudsClasses.j0 kq a0 l1 x25_2 = some r) ∧ Aside0 (kq ≤ k) ∧ Aside0 (Below w.heap.size w wc))
  case first =>
    have H := HC3.out
    clear HC3
    replace H := Option.bind_eq_some_iff.mp H
    obtain ⟨t101, A40, H⟩ := H
    replace H : (if t101 = true then ((drovewayref09_Ties.f k a0 l1).bind fun t102 => (drovewaylaw09_FeudsClasses.j0 k a0 l1 (t102 != 0))) else (drovewaylaw09_FeudsClasses.j0 k a0 l1 true)) = some r := H
    have A4 := Aside0.mk A40
    clear A40
    by_cases c5 : t101 = true
    · subst c5
      have H1 : ((drovewayref09_Ties.f k a0 l1).bind fun t102 => (drovewaylaw09_FeudsClasses.j0 k a0 l1 (t102 != 0))) = some r := by rw [if_pos rfl] at H; exact H
      clear H
      have H := H1
      clear H1
      replace H := Option.bind_eq_some_iff.mp H
      obtain ⟨t102, A60, H⟩ := H
      replace H : (drovewaylaw09_FeudsClasses.j0 k a0 l1 (t102 != 0)) = some r := H
      have A6 := Aside0.mk A60
      clear A60
      have H' := Aside0.mk H
      clear H
      go_wp2_with (first | (go_at_call 16; (refine (drovewaylaw09_few.calls _ _ l1 _ _ ([] : List Int) true _ ?side1 ?side2 ?side3 ?side4 A4.out).mono ?_); (case side1 => repeat (first | exact (Kd.C_below HR1.out HB.out) | (with_reducible refine Kd.C_alloc ?_ _) | (with_reducible refine Kd.C_drewN ?_ _) | (with_reducible refine Kd.C_drew ?_))); (case side2 => exact HC1.out); (case side3 => exact Kd.C_nil _ _); (case side4 => exact Nat.le_refl _); rintro e w' ⟨rfl, ⟨nd, rfl⟩⟩; (try first | exact ⟨rfl, _, World.drewN_drewN _ _ _⟩ | exact ⟨rfl, _, Eq.trans (World.drewN_drewN _ _ _) (congrArg (World.drewN _) (Nat.add_assoc _ _ _))⟩)) | (go_at_call 24; (with_reducible refine (drovewayref09_Ties.calls k a0 _ _ l1 t102 _ ?side1 ?side2 A6.out).mono ?_); (case side1 => repeat (first | exact (Kd.C_below HR1.out (by repeat (first | (with_reducible first | exact HB.out | apply below_alloc | apply pw_below_drewN | apply below_drew1) | exact HB.out))) | (with_reducible refine Kd.C_alloc ?_ _) | (with_reducible refine Kd.C_drewN ?_ _) | (with_reducible refine Kd.C_drew ?_))); (case side2 => exact HC1.out); rintro e w' ⟨rfl, ⟨nd, rfl⟩⟩; (try first | exact ⟨rfl, _, World.drewN_drewN _ _ _⟩ | exact ⟨rfl, _, Eq.trans (World.drewN_drewN _ _ _) (congrArg (World.drewN _) (Nat.add_assoc _ _ _))⟩)))
      repeat (go_quiet (first | (go_at_call 16; (refine (drovewaylaw09_few.calls _ _ l1 _ _ ([] : List Int) true _ ?side1 ?side2 ?side3 ?side4 A4.out).mono ?_); (case side1 => repeat (first | exact (Kd.C_below HR1.out HB.out) | (with_reducible refine Kd.C_alloc ?_ _) | (with_reducible refine Kd.C_drewN ?_ _) | (with_reducible refine Kd.C_drew ?_))); (case side2 => exact HC1.out); (case side3 => exact Kd.C_nil _ _); (case side4 => exact Nat.le_refl _); rintro e w' ⟨rfl, ⟨nd, rfl⟩⟩; (try first | exact ⟨rfl, _, World.drewN_drewN _ _ _⟩ | exact ⟨rfl, _, Eq.trans (World.drewN_drewN _ _ _) (congrArg (World.drewN _) (Nat.add_assoc _ _ _))⟩)) | (go_at_call 24; (with_reducible refine (drovewayref09_Ties.calls k a0 _ _ l1 t102 _ ?side1 ?side2 A6.out).mono ?_); (case side1 => repeat (first | exact (Kd.C_below HR1.out (by repeat (first | (with_reducible first | exact HB.out | apply below_alloc | apply pw_below_drewN | apply below_drew1) | exact HB.out))) | (with_reducible refine Kd.C_alloc ?_ _) | (with_reducible refine Kd.C_drewN ?_ _) | (with_reducible refine Kd.C_drew ?_))); (case side2 => exact HC1.out); rintro e w' ⟨rfl, ⟨nd, rfl⟩⟩; (try first | exact ⟨rfl, _, World.drewN_drewN _ _ _⟩ | exact ⟨rfl, _, Eq.trans (World.drewN_drewN _ _ _) (congrArg (World.drewN _) (Nat.add_assoc _ _ _))⟩))); try go_wp2_with (first | (go_at_call 16; (refine (drovewaylaw09_few.calls _ _ l1 _ _ ([] : List Int) true _ ?side1 ?side2 ?side3 ?side4 A4.out).mono ?_); (case side1 => repeat (first | exact (Kd.C_below HR1.out HB.out) | (with_reducible refine Kd.C_alloc ?_ _) | (with_reducible refine Kd.C_drewN ?_ _) | (with_reducible refine Kd.C_drew ?_))); (case side2 => exact HC1.out); (case side3 => exact Kd.C_nil _ _); (case side4 => exact Nat.le_refl _); rintro e w' ⟨rfl, ⟨nd, rfl⟩⟩; (try first | exact ⟨rfl, _, World.drewN_drewN _ _ _⟩ | exact ⟨rfl, _, Eq.trans (World.drewN_drewN _ _ _) (congrArg (World.drewN _) (Nat.add_assoc _ _ _))⟩)) | (go_at_call 24; (with_reducible refine (drovewayref09_Ties.calls k a0 _ _ l1 t102 _ ?side1 ?side2 A6.out).mono ?_); (case side1 => repeat (first | exact (Kd.C_below HR1.out (by repeat (first | (with_reducible first | exact HB.out | apply below_alloc | apply pw_below_drewN | apply below_drew1) | exact HB.out))) | (with_reducible refine Kd.C_alloc ?_ _) | (with_reducible refine Kd.C_drewN ?_ _) | (with_reducible refine Kd.C_drew ?_))); (case side2 => exact HC1.out); rintro e w' ⟨rfl, ⟨nd, rfl⟩⟩; (try first | exact ⟨rfl, _, World.drewN_drewN _ _ _⟩ | exact ⟨rfl, _, Eq.trans (World.drewN_drewN _ _ _) (congrArg (World.drewN _) (Nat.add_assoc _ _ _))⟩))))
      go_meet
      case rel => exact ⟨_, ((t102 != 0)), (by first | rfl | (simp; done) | (simp [*]; done)), H', ⟨by first | omega | exact Nat.le_refl _⟩, ⟨by repeat (first | (with_reducible first | exact HB.out | apply below_alloc | apply pw_below_drewN | apply below_drew1) | exact HB.out)⟩⟩
    · replace c5 := Bool.eq_false_iff.mpr c5
      subst c5
      have H1 : (drovewaylaw09_FeudsClasses.j0 k a0 l1 true) = some r := by rw [if_neg (show ¬ (false = true) by decide)] at H; exact H
      clear H
      have H := H1
      clear H1
      have H' := Aside0.mk H
      clear H
      go_wp2_with (first | (go_at_call 16; (refine (drovewaylaw09_few.calls _ _ l1 _ _ ([] : List Int) false _ ?side1 ?side2 ?side3 ?side4 A4.out).mono ?_); (case side1 => repeat (first | exact (Kd.C_below HR1.out HB.out) | (with_reducible refine Kd.C_alloc ?_ _) | (with_reducible refine Kd.C_drewN ?_ _) | (with_reducible refine Kd.C_drew ?_))); (case side2 => exact HC1.out); (case side3 => exact Kd.C_nil _ _); (case side4 => exact Nat.le_refl _); rintro e w' ⟨rfl, ⟨nd, rfl⟩⟩; (try first | exact ⟨rfl, _, World.drewN_drewN _ _ _⟩ | exact ⟨rfl, _, Eq.trans (World.drewN_drewN _ _ _) (congrArg (World.drewN _) (Nat.add_assoc _ _ _))⟩)))
      repeat (go_quiet (first | (go_at_call 16; (refine (drovewaylaw09_few.calls _ _ l1 _ _ ([] : List Int) false _ ?side1 ?side2 ?side3 ?side4 A4.out).mono ?_); (case side1 => repeat (first | exact (Kd.C_below HR1.out HB.out) | (with_reducible refine Kd.C_alloc ?_ _) | (with_reducible refine Kd.C_drewN ?_ _) | (with_reducible refine Kd.C_drew ?_))); (case side2 => exact HC1.out); (case side3 => exact Kd.C_nil _ _); (case side4 => exact Nat.le_refl _); rintro e w' ⟨rfl, ⟨nd, rfl⟩⟩; (try first | exact ⟨rfl, _, World.drewN_drewN _ _ _⟩ | exact ⟨rfl, _, Eq.trans (World.drewN_drewN _ _ _) (congrArg (World.drewN _) (Nat.add_assoc _ _ _))⟩))); try go_wp2_with (first | (go_at_call 16; (refine (drovewaylaw09_few.calls _ _ l1 _ _ ([] : List Int) false _ ?side1 ?side2 ?side3 ?side4 A4.out).mono ?_); (case side1 => repeat (first | exact (Kd.C_below HR1.out HB.out) | (with_reducible refine Kd.C_alloc ?_ _) | (with_reducible refine Kd.C_drewN ?_ _) | (with_reducible refine Kd.C_drew ?_))); (case side2 => exact HC1.out); (case side3 => exact Kd.C_nil _ _); (case side4 => exact Nat.le_refl _); rintro e w' ⟨rfl, ⟨nd, rfl⟩⟩; (try first | exact ⟨rfl, _, World.drewN_drewN _ _ _⟩ | exact ⟨rfl, _, Eq.trans (World.drewN_drewN _ _ _) (congrArg (World.drewN _) (Nat.add_assoc _ _ _))⟩))))
      go_meet
      case rel => exact ⟨_, (true), (by first | rfl | (simp; done) | (simp [*]; done)), H', ⟨by first | omega | exact Nat.le_refl _⟩, ⟨by repeat (first | (with_reducible first | exact HB.out | apply below_alloc | apply pw_below_drewN | apply below_drew1) | exact HB.out)⟩⟩
  case rest =>
    clear HC3
    try clear c1
    try clear p2
    try clear c5
    obtain ⟨kq, x25_2, rfl, HA, HJ2, HB⟩ := hcut
    cases kq with
    | zero => exact absurd HA.out (by simp [drovewaylaw09_FeudsClasses.j0])
    | succ kj2 =>
      have H := HA.out
      clear HA
      simp only [drovewaylaw09_FeudsClasses.j0] at H
      by_cases c7 : x25_2 = true
      · subst c7
        have H1 : ((drovewaylaw09_alive.f).bind fun t103 => (some t103)) = some r := by rw [if_pos rfl] at H; exact H
        clear H
        have H := H1
        clear H1
        replace H := Option.bind_eq_some_iff.mp H
        obtain ⟨t103, A80, H⟩ := H
        replace H : (some t103) = some r := H
        have A8 := Aside0.mk A80
        clear A80
        obtain rfl := Option.some.inj H
        go_wp2_with (first | (go_at_call 17; (with_reducible refine (drovewaylaw09_alive.calls  t103 _ A8.out).mono ?_); rintro e w9 ⟨rfl, hb⟩; have n0_ := Aside0.mk (below_step (by repeat (first | (with_reducible first | exact HB.out | apply below_alloc | apply pw_below_drewN | apply below_drew1) | exact HB.out)) hb); clear HB; have HB := n0_; clear n0_; (try clear hb); (try clear hb2); (try clear hk); (try clear hi)))
        repeat (go_quiet (first | (go_at_call 17; (with_reducible refine (drovewaylaw09_alive.calls  t103 _ A8.out).mono ?_); rintro e w9 ⟨rfl, hb⟩; have n0_ := Aside0.mk (below_step (by repeat (first | (with_reducible first | exact HB.out | apply below_alloc | apply pw_below_drewN | apply below_drew1) | exact HB.out)) hb); clear HB; have HB := n0_; clear n0_; (try clear hb); (try clear hb2); (try clear hk); (try clear hi))); try go_wp2_with (first | (go_at_call 17; (with_reducible refine (drovewaylaw09_alive.calls  t103 _ A8.out).mono ?_); rintro e w9 ⟨rfl, hb⟩; have n0_ := Aside0.mk (below_step (by repeat (first | (with_reducible first | exact HB.out | apply below_alloc | apply pw_below_drewN | apply below_drew1) | exact HB.out)) hb); clear HB; have HB := n0_; clear n0_; (try clear hb); (try clear hb2); (try clear hk); (try clear hi))))
        go_ret
        exact ⟨by first | rfl | (simp [errW_none, errW_some] <;> rfl) | (simp [*, errW_none, errW_some] <;> rfl), by repeat (first | (with_reducible first | exact HB.out | apply below_alloc | apply pw_below_drewN | apply below_drew1) | exact HB.out)⟩
      · replace c7 := Bool.eq_false_iff.mpr c7
        subst c7
        have H1 : ((feuds_Classes.f a0 l1).bind fun bt104 => ((drovewayref09_Groups.f kj2 a0 l1).bind fun t106 => (if bt104.2 = 0 then (if 0 ≤ (wrap64 ((wrap64 ((l1.length : Int) - a0)) + t106)) then (drovewaylaw09_FeudsClasses.j1 kj2 a0 l1 t106 (bt104.1 != (shl .i64 1 (wrap64 ((wrap64 ((l1.length : Int) - a0)) + t106))))) else (none)) else (drovewaylaw09_FeudsClasses.j1 kj2 a0 l1 t106 true)))) = some r := by rw [if_neg (show ¬ (false = true) by decide)] at H; exact H
        clear H
        have H := H1
        clear H1
        replace H := Option.bind_eq_some_iff.mp H
        obtain ⟨⟨t104, t105⟩, A100, H⟩ := H
        replace H : ((drovewayref09_Groups.f kj2 a0 l1).bind fun t106 => (if t105 = 0 then (if 0 ≤ (wrap64 ((wrap64 ((l1.length : Int) - a0)) + t106)) then (drovewaylaw09_FeudsClasses.j1 kj2 a0 l1 t106 (t104 != (shl .i64 1 (wrap64 ((wrap64 ((l1.length : Int) - a0)) + t106))))) else (none)) else (drovewaylaw09_FeudsClasses.j1 kj2 a0 l1 t106 true))) = some r := H
        have A10 := Aside0.mk A100
        clear A100
        replace H := Option.bind_eq_some_iff.mp H
        obtain ⟨t106, A110, H⟩ := H
        replace H : (if t105 = 0 then (if 0 ≤ (wrap64 ((wrap64 ((l1.length : Int) - a0)) + t106)) then (drovewaylaw09_FeudsClasses.j1 kj2 a0 l1 t106 (t104 != (shl .i64 1 (wrap64 ((wrap64 ((l1.length : Int) - a0)) + t106))))) else (none)) else (drovewaylaw09_FeudsClasses.j1 kj2 a0 l1 t106 true)) = some r := H
        have A11 := Aside0.mk A110
        clear A110
        have HC12 := Aside0.mk H
        clear H
        go_upto_region 5 with (first | (go_at_call 32; (with_reducible refine (feuds_Classes.calls a0 _ _ l1 t104 t105 _ ?side1 ?side2 A10.out).mono ?_); (case side1 => repeat (first | exact (Kd.C_below HR1.out HB.out) | (with_reducible refine Kd.C_alloc ?_ _) | (with_reducible refine Kd.C_drewN ?_ _) | (with_reducible refine Kd.C_drew ?_))); (case side2 => exact HC1.out); rintro e w13 ⟨rfl, hb⟩; have n0_ := Aside0.mk (below_step (by repeat (first | (with_reducible first | exact HB.out | apply below_alloc | apply pw_below_drewN | apply below_drew1) | exact HB.out)) hb); clear HB; have HB := n0_; clear n0_; (try clear hb); (try clear hb2); (try clear hk); (try clear hi)) | (go_at_call 42; (with_reducible refine (drovewayref09_Groups.calls kj2 a0 _ _ l1 t106 _ ?side1 ?side2 A11.out).mono ?_); (case side1 => repeat (first | exact (Kd.C_below HR1.out HB.out) | (with_reducible refine Kd.C_alloc ?_ _) | (with_reducible refine Kd.C_drewN ?_ _) | (with_reducible refine Kd.C_drew ?_))); (case side2 => exact HC1.out); rintro e w14 ⟨rfl, hb⟩; have n0_ := Aside0.mk (below_step (by repeat (first | (with_reducible first | exact HB.out | apply below_alloc | apply pw_below_drewN | apply below_drew1) | exact HB.out)) hb); clear HB; have HB := n0_; clear n0_; (try clear hb); (try clear hb2); (try clear hk); (try clear hi)))
        repeat (go_quiet (first | (go_at_call 32; (with_reducible refine (feuds_Classes.calls a0 _ _ l1 t104 t105 _ ?side1 ?side2 A10.out).mono ?_); (case side1 => repeat (first | exact (Kd.C_below HR1.out HB.out) | (with_reducible refine Kd.C_alloc ?_ _) | (with_reducible refine Kd.C_drewN ?_ _) | (with_reducible refine Kd.C_drew ?_))); (case side2 => exact HC1.out); rintro e w13 ⟨rfl, hb⟩; have n0_ := Aside0.mk (below_step (by repeat (first | (with_reducible first | exact HB.out | apply below_alloc | apply pw_below_drewN | apply below_drew1) | exact HB.out)) hb); clear HB; have HB := n0_; clear n0_; (try clear hb); (try clear hb2); (try clear hk); (try clear hi)) | (go_at_call 42; (with_reducible refine (drovewayref09_Groups.calls kj2 a0 _ _ l1 t106 _ ?side1 ?side2 A11.out).mono ?_); (case side1 => repeat (first | exact (Kd.C_below HR1.out HB.out) | (with_reducible refine Kd.C_alloc ?_ _) | (with_reducible refine Kd.C_drewN ?_ _) | (with_reducible refine Kd.C_drew ?_))); (case side2 => exact HC1.out); rintro e w14 ⟨rfl, hb⟩; have n0_ := Aside0.mk (below_step (by repeat (first | (with_reducible first | exact HB.out | apply below_alloc | apply pw_below_drewN | apply below_drew1) | exact HB.out)) hb); clear HB; have HB := n0_; clear n0_; (try clear hb); (try clear hb2); (try clear hk); (try clear hi))); go_upto_region 5 with (first | (go_at_call 32; (with_reducible refine (feuds_Classes.calls a0 _ _ l1 t104 t105 _ ?side1 ?side2 A10.out).mono ?_); (case side1 => repeat (first | exact (Kd.C_below HR1.out HB.out) | (with_reducible refine Kd.C_alloc ?_ _) | (with_reducible refine Kd.C_drewN ?_ _) | (with_reducible refine Kd.C_drew ?_))); (case side2 => exact HC1.out); rintro e w13 ⟨rfl, hb⟩; have n0_ := Aside0.mk (below_step (by repeat (first | (with_reducible first | exact HB.out | apply below_alloc | apply pw_below_drewN | apply below_drew1) | exact HB.out)) hb); clear HB; have HB := n0_; clear n0_; (try clear hb); (try clear hb2); (try clear hk); (try clear hi)) | (go_at_call 42; (with_reducible refine (drovewayref09_Groups.calls kj2 a0 _ _ l1 t106 _ ?side1 ?side2 A11.out).mono ?_); (case side1 => repeat (first | exact (Kd.C_below HR1.out HB.out) | (with_reducible refine Kd.C_alloc ?_ _) | (with_reducible refine Kd.C_drewN ?_ _) | (with_reducible refine Kd.C_drew ?_))); (case side2 => exact HC1.out); rintro e w14 ⟨rfl, hb⟩; have n0_ := Aside0.mk (below_step (by repeat (first | (with_reducible first | exact HB.out | apply below_alloc | apply pw_below_drewN | apply below_drew1) | exact HB.out)) hb); clear HB; have HB := n0_; clear n0_; (try clear hb); (try clear hb2); (try clear hk); (try clear hi))))
        (try simp only [Act.put, List.setIfInBounds_toArray, List.set_cons_zero, List.set_cons_succ])
        go_cut [48] (fun v48 wc => ∃ (kq : Nat) (x48_11 : Bool), v48 = .bool x48_11 ∧ Aside0 (drovewaylaw09_FeudsClasses.j1 kq a0 l1 t106 x48_11 = some r) ∧ Aside0 (kq ≤ kj2) ∧ Aside0 (Below w.heap.size w wc))
        case first =>
          have H := HC12.out
          clear HC12
          by_cases c15 : t105 = 0
          · rw [if_pos c15] at H
            have c15b0 : (t105 == 0) = true := beq_iff_eq.mpr c15
            have c15b1 : (t105 != 0) = false := bne_eq_false_iff_eq.mpr c15
            clear c15
            (first | rw [c15b0] | (simp only [i64_w, i32_w]; rw [c15b0]) | skip)
            obtain ⟨ji16, hji16⟩ : ∃ j_ : Int, (wrap64 ((wrap64 ((l1.length : Int) - a0)) + t106)) = j_ := ⟨_, rfl⟩
            replace H : (if 0 ≤ (ji16) then (drovewaylaw09_FeudsClasses.j1 kj2 a0 l1 t106 (t104 != (shl .i64 1 (ji16)))) else (none)) = some r := by first | (rw [hji16] at H; exact H) | (simp only [hji16] at H ⊢; exact H)
            have hji16w : (IntKind.i64.wrap ((wrap64 ((l1.length : Int) - a0)) + t106)) = ji16 := (i64_w _).trans hji16
            by_cases c17 : 0 ≤ (ji16)
            · rw [if_pos c17] at H
              have c17b0 := eq_true c17
              have c17b1 : decide (0 ≤ (ji16)) = true := decide_eq_true c17
              clear c17
              obtain ⟨ji18, hji18⟩ : ∃ j_ : Int, (shl .i64 1 (ji16)) = j_ := ⟨_, rfl⟩
              replace H : (drovewaylaw09_FeudsClasses.j1 kj2 a0 l1 t106 (t104 != (ji18))) = some r := by first | (rw [hji18] at H; exact H) | (simp only [hji18] at H ⊢; exact H)
              have hji18_ : (IntKind.i64.wrap (1 * 2 ^ min (ji16).toNat 64)) = ji18 := hji18
              have hji18z : (ji16) ≤ 64 → (IntKind.i64.wrap (1 * 2 ^ (ji16).toNat)) = ji18 := shl_small hji18
              have hji18u : (IntKind.i64.wrap (2 ^ min (ji16).toNat 64)) = ji18 := by have h_ := hji18_; rw [Int.one_mul] at h_; exact h_
              have hji18v : (ji16) ≤ 64 → (IntKind.i64.wrap (2 ^ (ji16).toNat)) = ji18 := fun hle_ => by have h_ := hji18z hle_; rw [Int.one_mul] at h_; exact h_
              have hji18y : (wrap64 (1 * 2 ^ min (ji16).toNat 64)) = ji18 := (i64_w _).symm.trans hji18_
              have hji18x : (ji16) ≤ 64 → (wrap64 (1 * 2 ^ (ji16).toNat)) = ji18 := fun h_ => (i64_w _).symm.trans (hji18z h_)
              have H' := Aside0.mk H
              clear H
              go_wp2
              repeat (go_quiet (fail); try go_wp2)
              go_meet
              case rel => exact ⟨_, ((t104 != (ji18))), (by first | rfl | (simp; done) | (simp only [← hji18] <;> (first | rfl | simp)) | (simp [*]; done)), H', ⟨by have := HJ2.out; first | omega | exact Nat.le_refl _⟩, ⟨by repeat (first | (with_reducible first | exact HB.out | apply below_alloc | apply pw_below_drewN | apply below_drew1) | exact HB.out)⟩⟩
            · rw [if_neg c17] at H
              exact absurd H (by simp)
          · rw [if_neg c15] at H
            have c15b0 : (t105 == 0) = false := beq_eq_false_iff_ne.mpr c15
            have c15b1 : (t105 != 0) = true := bne_iff_ne.mpr c15
            (first | rw [c15b0] | (simp only [i64_w, i32_w]; rw [c15b0]) | skip)
            have H' := Aside0.mk H
            clear H
            go_wp2
            repeat (go_quiet (fail); try go_wp2)
            go_meet
            case rel => exact ⟨_, (true), (by first | rfl | (simp; done) | (simp [*]; done)), H', ⟨by have := HJ2.out; first | omega | exact Nat.le_refl _⟩, ⟨by repeat (first | (with_reducible first | exact HB.out | apply below_alloc | apply pw_below_drewN | apply below_drew1) | exact HB.out)⟩⟩
        case rest =>
          clear HC12
          try clear c1
          try clear p2
          try clear c5
          try clear p6
          try clear c7
          try clear c11
          try clear c15
          try clear c15b0
          try clear c15b1
          try clear c17
          try clear c17b0
          try clear c17b1
          try clear p2
          obtain ⟨kq, x48_11, rfl, HA, HJ11, HB⟩ := hcut
          cases kq with
          | zero => exact absurd HA.out (by simp [drovewaylaw09_FeudsClasses.j1])
          | succ kj11 =>
            have H := HA.out
            clear HA
            simp only [drovewaylaw09_FeudsClasses.j1] at H
            by_cases c19 : x48_11 = true
            · subst c19
              have H1 : (some false) = some r := by rw [if_pos rfl] at H; exact H
              clear H
              have H := H1
              clear H1
              obtain rfl := Option.some.inj H
              go_wp2
              repeat (go_quiet (fail); try go_wp2)
              go_ret
              exact ⟨by first | rfl | (simp [errW_none, errW_some] <;> rfl) | (simp [*, errW_none, errW_some] <;> rfl), by repeat (first | (with_reducible first | exact HB.out | apply below_alloc | apply pw_below_drewN | apply below_drew1) | exact HB.out)⟩
            · replace c19 := Bool.eq_false_iff.mpr c19
              subst c19
              have H1 : (if (l1.length : Int) > 8 then ((drovewaylaw09_alive.f).bind fun t107 => (some t107)) else (drovewaylaw09_FeudsClasses.l0 kj11 a0 l1 t106 0 0)) = some r := by rw [if_neg (show ¬ (false = true) by decide)] at H; exact H
              clear H
              have H := H1
              clear H1
              by_cases c20 : (l1.length : Int) > 8
              · rw [if_pos c20] at H
                have c20b0 : decide (8 < (l1.length : Int)) = true := decide_eq_true c20
                have c20b1 : decide (8 < l1.length) = true := decide_eq_true (by omega)
                clear c20
                replace H := Option.bind_eq_some_iff.mp H
                obtain ⟨t107, A210, H⟩ := H
                replace H : (some t107) = some r := H
                have A21 := Aside0.mk A210
                clear A210
                obtain rfl := Option.some.inj H
                go_wp2_with (first | (go_at_call 17; (with_reducible refine (drovewaylaw09_alive.calls  t107 _ A21.out).mono ?_); rintro e w22 ⟨rfl, hb⟩; have n0_ := Aside0.mk (below_step (by repeat (first | (with_reducible first | exact HB.out | apply below_alloc | apply pw_below_drewN | apply below_drew1) | exact HB.out)) hb); clear HB; have HB := n0_; clear n0_; (try clear hb); (try clear hb2); (try clear hk); (try clear hi)))
                repeat (go_quiet (first | (go_at_call 17; (with_reducible refine (drovewaylaw09_alive.calls  t107 _ A21.out).mono ?_); rintro e w22 ⟨rfl, hb⟩; have n0_ := Aside0.mk (below_step (by repeat (first | (with_reducible first | exact HB.out | apply below_alloc | apply pw_below_drewN | apply below_drew1) | exact HB.out)) hb); clear HB; have HB := n0_; clear n0_; (try clear hb); (try clear hb2); (try clear hk); (try clear hi))); try go_wp2_with (first | (go_at_call 17; (with_reducible refine (drovewaylaw09_alive.calls  t107 _ A21.out).mono ?_); rintro e w22 ⟨rfl, hb⟩; have n0_ := Aside0.mk (below_step (by repeat (first | (with_reducible first | exact HB.out | apply below_alloc | apply pw_below_drewN | apply below_drew1) | exact HB.out)) hb); clear HB; have HB := n0_; clear n0_; (try clear hb); (try clear hb2); (try clear hk); (try clear hi))))
                go_ret
                exact ⟨by first | rfl | (simp [errW_none, errW_some] <;> rfl) | (simp [*, errW_none, errW_some] <;> rfl), by repeat (first | (with_reducible first | exact HB.out | apply below_alloc | apply pw_below_drewN | apply below_drew1) | exact HB.out)⟩
              · rw [if_neg c20] at H
                have c20b0 : decide (8 < (l1.length : Int)) = false := decide_eq_false c20
                have c20b1 : decide (8 < l1.length) = false := decide_eq_false (by omega)
                clear c20
                have H' := Aside0.mk H
                clear H
                go_wp2
                repeat (go_quiet (fail); try go_wp2)
                go_loopg [8, 9] kj11 (fun kq v8 v9 w' => ∃ (x8_3 : Int) (x9_3 : Int), v8 = .int .i64 x8_3 ∧ v9 = .int .i64 x9_3 ∧ Aside0 (drovewaylaw09_FeudsClasses.l0 kq a0 l1 t106 x8_3 x9_3 = some r) ∧ Aside0 (kq ≤ kj11) ∧ Aside0 (Below w.heap.size w w'))
                case atStart => exact ⟨(0), (0), (by first | rfl | (simp; done) | (simp [*]; done)), (by first | rfl | (simp; done) | (simp [*]; done)), H', ⟨Nat.le_refl _⟩, ⟨by repeat (first | (with_reducible first | exact HB.out | apply below_alloc | apply pw_below_drewN | apply below_drew1) | exact HB.out)⟩⟩
                case round =>
                  clear H'
                  try clear c1
                  try clear c2
                  try clear p2
                  try clear c5
                  try clear p6
                  try clear c7
                  try clear c11
                  try clear c15
                  try clear c15b0
                  try clear c15b1
                  try clear c17
                  try clear c17b0
                  try clear c17b1
                  try clear c19
                  try clear c20
                  try clear c20b0
                  try clear c20b1
                  try clear p2
                  try clear p6
                  obtain ⟨x8_3, x9_3, rfl, rfl, HA, HK3, HB⟩ := hrel
                  cases gk with
                  | zero => exact absurd HA.out (by simp [drovewaylaw09_FeudsClasses.l0])
                  | succ k3 =>
                    have H := HA.out
                    clear HA
                    simp only [drovewaylaw09_FeudsClasses.l0] at H
                    obtain ⟨ji23, hji23⟩ : ∃ j_ : Int, (shl .i64 1 (l1.length : Int)) = j_ := ⟨_, rfl⟩
                    replace H : (if x9_3 < (ji23) then (drovewaylaw09_FeudsClasses.l1 k3 a0 l1 t106 x8_3 x9_3 ([] : List Bool) 0) else (if 0 ≤ (wrap64 (a0 - t106)) then (if x8_3 = (shl .i64 1 (wrap64 (a0 - t106))) then ((drovewaylaw09_alive.f).bind fun t108 => (some t108)) else (some false)) else (none))) = some r := by first | (rw [hji23] at H; exact H) | (simp only [hji23] at H ⊢; exact H)
                    have hji23_ : (IntKind.i64.wrap (1 * 2 ^ min (l1.length : Int).toNat 64)) = ji23 := hji23
                    have hji23z : (l1.length : Int) ≤ 64 → (IntKind.i64.wrap (1 * 2 ^ (l1.length : Int).toNat)) = ji23 := shl_small hji23
                    have hji23p : (IntKind.i64.wrap (1 * 2 ^ min l1.length 64)) = ji23 := hji23_
                    have hji23q : (l1.length : Int) ≤ 64 → (IntKind.i64.wrap (1 * 2 ^ l1.length)) = ji23 := hji23z
                    have hji23r : (IntKind.i64.wrap (2 ^ min l1.length 64)) = ji23 := by have h_ := hji23p; rw [Int.one_mul] at h_; exact h_
                    have hji23s : (l1.length : Int) ≤ 64 → (IntKind.i64.wrap (2 ^ l1.length)) = ji23 := fun hle_ => by have h_ := hji23q hle_; rw [Int.one_mul] at h_; exact h_
                    have hji23u : (IntKind.i64.wrap (2 ^ min (l1.length : Int).toNat 64)) = ji23 := by have h_ := hji23_; rw [Int.one_mul] at h_; exact h_
                    have hji23v : (l1.length : Int) ≤ 64 → (IntKind.i64.wrap (2 ^ (l1.length : Int).toNat)) = ji23 := fun hle_ => by have h_ := hji23z hle_; rw [Int.one_mul] at h_; exact h_
                    have hji23y : (wrap64 (1 * 2 ^ min (l1.length : Int).toNat 64)) = ji23 := (i64_w _).symm.trans hji23_
                    have hji23x : (l1.length : Int) ≤ 64 → (wrap64 (1 * 2 ^ (l1.length : Int).toNat)) = ji23 := fun h_ => (i64_w _).symm.trans (hji23z h_)
                    by_cases c24 : x9_3 < (ji23)
                    · rw [if_pos c24] at H
                      have c24b0 : decide (x9_3 < (ji23)) = true := decide_eq_true c24
                      clear c24
                      have H' := Aside0.mk H
                      clear H
                      go_wp2
                      repeat (go_quiet (fail); try go_wp2)
                      go_loopg [10, 11] k3 (fun kq v10 v11 w' => ∃ (x10_4 : List Bool) (x11_4 : Int), v11 = .int .i64 x11_4 ∧ Aside0 (drovewaylaw09_FeudsClasses.l1 kq a0 l1 t106 x8_3 x9_3 x10_4 x11_4 = some r) ∧ Aside0 (kq ≤ k3) ∧ Aside0 (Kd.R Kd.bool 4 w' w.heap.size (fun _ => True) v10 x10_4) ∧ Aside0 (Below w.heap.size w w'))
                      case atStart => exact ⟨(([] : List Bool)), (0), (by first | rfl | (simp; done) | (simp [*]; done)), H', ⟨Nat.le_refl _⟩, ⟨by first | exact Kd.R_nil _ _ _ _ _ | exact Kd.N_nil _ _ _ _ _ | exact Kd.V_nil _ _ _ _ _ | exact Kd.Q_nil _ _ _ _ _ | exact Kd.S_nil _ _ _ _ _⟩, ⟨by repeat (first | (with_reducible first | exact HB.out | apply below_alloc | apply pw_below_drewN | apply below_drew1) | exact HB.out)⟩⟩
                      case round =>
                        clear H'
                        try clear c1
                        try clear c2
                        try clear p2
                        try clear c5
                        try clear p6
                        try clear c7
                        try clear c11
                        try clear c15
                        try clear c15b0
                        try clear c15b1
                        try clear c17
                        try clear c17b0
                        try clear c17b1
                        try clear c19
                        try clear c20
                        try clear c20b0
                        try clear c20b1
                        try clear c24
                        try clear c24b0
                        try clear p2
                        try clear p6
                        obtain ⟨x10_4, x11_4, rfl, HA, HK4, HO_10, HB⟩ := hrel
                        cases gk with
                        | zero => exact absurd HA.out (by simp [drovewaylaw09_FeudsClasses.l1])
                        | succ k4 =>
                          have H := HA.out
                          clear HA
                          simp only [drovewaylaw09_FeudsClasses.l1] at H
                          by_cases c25 : x11_4 < (l1.length : Int)
                          · rw [if_pos c25] at H
                            have c25b0 : decide (x11_4 < (l1.length : Int)) = true := decide_eq_true c25
                            clear c25
                            by_cases c26 : 0 ≤ x11_4
                            · rw [if_pos c26] at H
                              have c26b0 := eq_true c26
                              have c26b1 : decide (0 ≤ x11_4) = true := decide_eq_true c26
                              clear c26
                              obtain ⟨ji27, hji27⟩ : ∃ j_ : Int, (shr .i64 x9_3 x11_4) = j_ := ⟨_, rfl⟩
                              replace H : (if x10_4.length < 140737488355328 then (drovewaylaw09_FeudsClasses.l1 k4 a0 l1 t106 x8_3 x9_3 (x10_4 ++ [((Int.tmod (ji27) 2) == 1)]) (wrap64 (x11_4 + 1))) else (none)) = some r := by first | (rw [hji27] at H; exact H) | (simp only [hji27] at H ⊢; exact H)
                              have hji27_ : (x9_3 / 2 ^ min x11_4.toNat 64) = ji27 := hji27
                              have hji27z : x11_4 ≤ 64 → (x9_3 / 2 ^ x11_4.toNat) = ji27 := shr_small hji27
                              by_cases c28 : x10_4.length < 140737488355328
                              · rw [if_pos c28] at H
                                have LMc28 := Aside0.mk c28
                                clear c28
                                obtain ⟨y109, hy109⟩ : ∃ y_ : List Bool, y_ = (x10_4 ++ [((Int.tmod (ji27) 2) == 1)]) := ⟨_, rfl⟩
                                replace H : (drovewaylaw09_FeudsClasses.l1 k4 a0 l1 t106 x8_3 x9_3 y109 (wrap64 (x11_4 + 1))) = some r := by first | (rw [hy109]; with_reducible exact H) | (have H2_ := (Option.bind_some _ _).symm.trans H; rw [hy109]; with_reducible exact H2_) | (have H2_ := (Option.bind_some _ _).symm.trans H; with_reducible exact H2_) | with_reducible exact H | (rw [hy109]; exact H) | exact H
                                have Ny109 := Aside0.mk hy109
                                clear hy109
                                have H' := Aside0.mk H
                                clear H
                                go_wp2_with (first | ((with_reducible refine gate_builtin (b := .append) (xs := #[.tmp 66, .tmp 72]) rfl ?_); (try (refine gate_guard (by rfl) ?_; dsimp only)); at_builtin; refine Kd.R_append Kd.bool (w0 := w) w.heap.size rfl (.tmp 66) (.tmp 72) 41 4 (.bool false) 1 rfl Try.underlying41 info4 rfl (by decide) (by omega) u10 x10_4 ((Int.tmod (ji27) 2) == 1) [.bool ((Int.tmod (ji27) 2) == 1)] (fun _ => True) (fun _ => False) rfl rfl ?aP (fun _ hk => hk.elim) ?aF ?aO ?aB ?aS ?aL ?_; (case aP => exact rfl); (case aB => exact (by repeat (first | (with_reducible first | exact HB.out | apply below_alloc | apply pw_below_drewN | apply below_drew1) | exact HB.out))); (case aF => exact (fun _ _ => trivial)); (case aO => exact (by (with_reducible repeat (first | apply Kd.R_alloc | apply Kd.R_drewN | apply Kd.R_drew)); exact HO_10.out)); (case aS => exact (below_size (by repeat (first | (with_reducible first | exact HB.out | apply below_alloc | apply pw_below_drewN | apply below_drew1) | exact HB.out)))); (case aL => have := LMc28.out; omega); intro v110 w29 ho hb hg hat; rw [← Ny109.out] at ho; have n0_ := Aside0.mk (hb); have n1_ := Aside0.mk (ho); clear HB; clear HO_10; have HB := n0_; have HO111 := n1_; clear n0_ n1_; clear ho hb hg hat))
                                repeat (go_quiet (first | ((with_reducible refine gate_builtin (b := .append) (xs := #[.tmp 66, .tmp 72]) rfl ?_); (try (refine gate_guard (by rfl) ?_; dsimp only)); at_builtin; refine Kd.R_append Kd.bool (w0 := w) w.heap.size rfl (.tmp 66) (.tmp 72) 41 4 (.bool false) 1 rfl Try.underlying41 info4 rfl (by decide) (by omega) u10 x10_4 ((Int.tmod (ji27) 2) == 1) [.bool ((Int.tmod (ji27) 2) == 1)] (fun _ => True) (fun _ => False) rfl rfl ?aP (fun _ hk => hk.elim) ?aF ?aO ?aB ?aS ?aL ?_; (case aP => exact rfl); (case aB => exact (by repeat (first | (with_reducible first | exact HB.out | apply below_alloc | apply pw_below_drewN | apply below_drew1) | exact HB.out))); (case aF => exact (fun _ _ => trivial)); (case aO => exact (by (with_reducible repeat (first | apply Kd.R_alloc | apply Kd.R_drewN | apply Kd.R_drew)); exact HO_10.out)); (case aS => exact (below_size (by repeat (first | (with_reducible first | exact HB.out | apply below_alloc | apply pw_below_drewN | apply below_drew1) | exact HB.out)))); (case aL => have := LMc28.out; omega); intro v110 w29 ho hb hg hat; rw [← Ny109.out] at ho; have n0_ := Aside0.mk (hb); have n1_ := Aside0.mk (ho); clear HB; clear HO_10; have HB := n0_; have HO111 := n1_; clear n0_ n1_; clear ho hb hg hat)); try go_wp2_with (first | ((with_reducible refine gate_builtin (b := .append) (xs := #[.tmp 66, .tmp 72]) rfl ?_); (try (refine gate_guard (by rfl) ?_; dsimp only)); at_builtin; refine Kd.R_append Kd.bool (w0 := w) w.heap.size rfl (.tmp 66) (.tmp 72) 41 4 (.bool false) 1 rfl Try.underlying41 info4 rfl (by decide) (by omega) u10 x10_4 ((Int.tmod (ji27) 2) == 1) [.bool ((Int.tmod (ji27) 2) == 1)] (fun _ => True) (fun _ => False) rfl rfl ?aP (fun _ hk => hk.elim) ?aF ?aO ?aB ?aS ?aL ?_; (case aP => exact rfl); (case aB => exact (by repeat (first | (with_reducible first | exact HB.out | apply below_alloc | apply pw_below_drewN | apply below_drew1) | exact HB.out))); (case aF => exact (fun _ _ => trivial)); (case aO => exact (by (with_reducible repeat (first | apply Kd.R_alloc | apply Kd.R_drewN | apply Kd.R_drew)); exact HO_10.out)); (case aS => exact (below_size (by repeat (first | (with_reducible first | exact HB.out | apply below_alloc | apply pw_below_drewN | apply below_drew1) | exact HB.out)))); (case aL => have := LMc28.out; omega); intro v110 w29 ho hb hg hat; rw [← Ny109.out] at ho; have n0_ := Aside0.mk (hb); have n1_ := Aside0.mk (ho); clear HB; clear HO_10; have HB := n0_; have HO111 := n1_; clear n0_ n1_; clear ho hb hg hat)))
                                go_roundg k4
                                case measure => have := HJ2.out; have := HJ11.out; have := HK3.out; have := HK4.out; omega
                                case rel => exact ⟨(y109), (wrap64 (x11_4 + 1)), (by first | rfl | (simp; done) | (simp [*]; done)), H', ⟨by have := HJ2.out; have := HJ11.out; have := HK3.out; have := HK4.out; omega⟩, ⟨by (with_reducible repeat (first | apply Kd.R_alloc | apply Kd.R_drewN | apply Kd.R_drew)); exact HO111.out⟩, ⟨by repeat (first | (with_reducible first | exact HB.out | apply below_alloc | apply pw_below_drewN | apply below_drew1) | exact HB.out)⟩⟩
                              · rw [if_neg c28] at H
                                exact absurd H (by simp)
                            · rw [if_neg c26] at H
                              exact absurd H (by simp)
                          · rw [if_neg c25] at H
                            have c25b0 : decide (x11_4 < (l1.length : Int)) = false := decide_eq_false c25
                            clear c25
                            replace H := Option.bind_eq_some_iff.mp H
                            obtain ⟨⟨t112, t113⟩, A300, H⟩ := H
                            replace H : (if t113 = 0 then ((feuds_Switch.f a0 l1 t112).bind fun bt114 => (if bt114.2 = 0 then (drovewaylaw09_FeudsClasses.j4 k4 a0 l1 t106 (wrap64 (x8_3 + 1)) x9_3 x10_4 bt114.1 ((bt114.1.length : Int) != (l1.length : Int))) else (drovewaylaw09_FeudsClasses.j4 k4 a0 l1 t106 (wrap64 (x8_3 + 1)) x9_3 x10_4 bt114.1 true))) else (if t113 = 10 then (drovewaylaw09_FeudsClasses.l0 k4 a0 l1 t106 x8_3 (wrap64 (x9_3 + 1))) else (some false))) = some r := H
                            have A30 := Aside0.mk A300
                            clear A300
                            by_cases c31 : t113 = 0
                            · rw [if_pos c31] at H
                              have c31b0 : (t113 == 0) = true := beq_iff_eq.mpr c31
                              have c31b1 : (t113 != 0) = false := bne_eq_false_iff_eq.mpr c31
                              clear c31
                              replace H := Option.bind_eq_some_iff.mp H
                              obtain ⟨⟨t114, t115⟩, A320, H⟩ := H
                              replace H : (if t115 = 0 then (drovewaylaw09_FeudsClasses.j4 k4 a0 l1 t106 (wrap64 (x8_3 + 1)) x9_3 x10_4 t114 ((t114.length : Int) != (l1.length : Int))) else (drovewaylaw09_FeudsClasses.j4 k4 a0 l1 t106 (wrap64 (x8_3 + 1)) x9_3 x10_4 t114 true)) = some r := H
                              have A32 := Aside0.mk A320
                              clear A320
                              have HC33 := Aside0.mk H
                              clear H
                              obtain ⟨Ao34, co34, eo34⟩ := Kd.R_slice HO_10.out
                              subst eo34
                              go_upto_region 24 with (first | (go_at_call 30; (with_reducible refine (feuds_Same.calls a0 _ _ l1 _ _ x10_4 t112 t113 _ ?side1 ?side2 ?side3 ?side4 A30.out).mono ?_); (case side1 => repeat (first | exact (Kd.C_below HR1.out HB.out) | (with_reducible refine Kd.C_alloc ?_ _) | (with_reducible refine Kd.C_drewN ?_ _) | (with_reducible refine Kd.C_drew ?_))); (case side2 => exact HC1.out); (case side3 => repeat (first | exact (Kd.R_reads' HO_10.out).2.2 | (with_reducible refine Kd.C_alloc ?_ _) | (with_reducible refine Kd.C_drewN ?_ _) | (with_reducible refine Kd.C_drew ?_))); (case side4 => exact (Kd.R_reads' HO_10.out).2.1); rintro e w35 ⟨rfl, hb⟩; have n0_ := Aside0.mk (Kd.R_below (by (with_reducible repeat (first | apply Kd.R_alloc | apply Kd.R_drewN | apply Kd.R_drew)); exact HO_10.out) hb); have n1_ := Aside0.mk (below_step (by repeat (first | (with_reducible first | exact HB.out | apply below_alloc | apply pw_below_drewN | apply below_drew1) | exact HB.out)) hb); clear HO_10; clear HB; have HO_10 := n0_; have HB := n1_; clear n0_ n1_; (try clear hb); (try clear hb2); (try clear hk); (try clear hi)) | (go_at_call 34; (with_reducible refine (feuds_Switch.calls a0 _ _ l1 t112 t114 t115 _ ?side1 ?side2 A32.out).mono ?_); (case side1 => repeat (first | exact (Kd.C_below HR1.out HB.out) | (with_reducible refine Kd.C_alloc ?_ _) | (with_reducible refine Kd.C_drewN ?_ _) | (with_reducible refine Kd.C_drew ?_))); (case side2 => exact HC1.out); rintro e w36 ⟨v116, rfl, ho0, hb⟩; have n0_ := Aside0.mk (Kd.R_below (by (with_reducible repeat (first | apply Kd.R_alloc | apply Kd.R_drewN | apply Kd.R_drew)); exact HO_10.out) hb); have n1_ := Aside0.mk (Kd.R_lower ho0 (below_size (by repeat (first | (with_reducible first | exact HB.out | apply below_alloc | apply pw_below_drewN | apply below_drew1) | exact HB.out)))); have n2_ := Aside0.mk (below_step (by repeat (first | (with_reducible first | exact HB.out | apply below_alloc | apply pw_below_drewN | apply below_drew1) | exact HB.out)) hb); clear HO_10; clear HB; have HO_10 := n0_; have HO117 := n1_; have HB := n2_; clear n0_ n1_ n2_; (try clear hb); (try clear hb2); (try clear hk); (try clear hi); (try clear ho0)))
                              repeat (go_quiet (first | (go_at_call 30; (with_reducible refine (feuds_Same.calls a0 _ _ l1 _ _ x10_4 t112 t113 _ ?side1 ?side2 ?side3 ?side4 A30.out).mono ?_); (case side1 => repeat (first | exact (Kd.C_below HR1.out HB.out) | (with_reducible refine Kd.C_alloc ?_ _) | (with_reducible refine Kd.C_drewN ?_ _) | (with_reducible refine Kd.C_drew ?_))); (case side2 => exact HC1.out); (case side3 => repeat (first | exact (Kd.R_reads' HO_10.out).2.2 | (with_reducible refine Kd.C_alloc ?_ _) | (with_reducible refine Kd.C_drewN ?_ _) | (with_reducible refine Kd.C_drew ?_))); (case side4 => exact (Kd.R_reads' HO_10.out).2.1); rintro e w35 ⟨rfl, hb⟩; have n0_ := Aside0.mk (Kd.R_below (by (with_reducible repeat (first | apply Kd.R_alloc | apply Kd.R_drewN | apply Kd.R_drew)); exact HO_10.out) hb); have n1_ := Aside0.mk (below_step (by repeat (first | (with_reducible first | exact HB.out | apply below_alloc | apply pw_below_drewN | apply below_drew1) | exact HB.out)) hb); clear HO_10; clear HB; have HO_10 := n0_; have HB := n1_; clear n0_ n1_; (try clear hb); (try clear hb2); (try clear hk); (try clear hi)) | (go_at_call 34; (with_reducible refine (feuds_Switch.calls a0 _ _ l1 t112 t114 t115 _ ?side1 ?side2 A32.out).mono ?_); (case side1 => repeat (first | exact (Kd.C_below HR1.out HB.out) | (with_reducible refine Kd.C_alloc ?_ _) | (with_reducible refine Kd.C_drewN ?_ _) | (with_reducible refine Kd.C_drew ?_))); (case side2 => exact HC1.out); rintro e w36 ⟨v116, rfl, ho0, hb⟩; have n0_ := Aside0.mk (Kd.R_below (by (with_reducible repeat (first | apply Kd.R_alloc | apply Kd.R_drewN | apply Kd.R_drew)); exact HO_10.out) hb); have n1_ := Aside0.mk (Kd.R_lower ho0 (below_size (by repeat (first | (with_reducible first | exact HB.out | apply below_alloc | apply pw_below_drewN | apply below_drew1) | exact HB.out)))); have n2_ := Aside0.mk (below_step (by repeat (first | (with_reducible first | exact HB.out | apply below_alloc | apply pw_below_drewN | apply below_drew1) | exact HB.out)) hb); clear HO_10; clear HB; have HO_10 := n0_; have HO117 := n1_; have HB := n2_; clear n0_ n1_ n2_; (try clear hb); (try clear hb2); (try clear hk); (try clear hi); (try clear ho0))); go_upto_region 24 with (first | (go_at_call 30; (with_reducible refine (feuds_Same.calls a0 _ _ l1 _ _ x10_4 t112 t113 _ ?side1 ?side2 ?side3 ?side4 A30.out).mono ?_); (case side1 => repeat (first | exact (Kd.C_below HR1.out HB.out) | (with_reducible refine Kd.C_alloc ?_ _) | (with_reducible refine Kd.C_drewN ?_ _) | (with_reducible refine Kd.C_drew ?_))); (case side2 => exact HC1.out); (case side3 => repeat (first | exact (Kd.R_reads' HO_10.out).2.2 | (with_reducible refine Kd.C_alloc ?_ _) | (with_reducible refine Kd.C_drewN ?_ _) | (with_reducible refine Kd.C_drew ?_))); (case side4 => exact (Kd.R_reads' HO_10.out).2.1); rintro e w35 ⟨rfl, hb⟩; have n0_ := Aside0.mk (Kd.R_below (by (with_reducible repeat (first | apply Kd.R_alloc | apply Kd.R_drewN | apply Kd.R_drew)); exact HO_10.out) hb); have n1_ := Aside0.mk (below_step (by repeat (first | (with_reducible first | exact HB.out | apply below_alloc | apply pw_below_drewN | apply below_drew1) | exact HB.out)) hb); clear HO_10; clear HB; have HO_10 := n0_; have HB := n1_; clear n0_ n1_; (try clear hb); (try clear hb2); (try clear hk); (try clear hi)) | (go_at_call 34; (with_reducible refine (feuds_Switch.calls a0 _ _ l1 t112 t114 t115 _ ?side1 ?side2 A32.out).mono ?_); (case side1 => repeat (first | exact (Kd.C_below HR1.out HB.out) | (with_reducible refine Kd.C_alloc ?_ _) | (with_reducible refine Kd.C_drewN ?_ _) | (with_reducible refine Kd.C_drew ?_))); (case side2 => exact HC1.out); rintro e w36 ⟨v116, rfl, ho0, hb⟩; have n0_ := Aside0.mk (Kd.R_below (by (with_reducible repeat (first | apply Kd.R_alloc | apply Kd.R_drewN | apply Kd.R_drew)); exact HO_10.out) hb); have n1_ := Aside0.mk (Kd.R_lower ho0 (below_size (by repeat (first | (with_reducible first | exact HB.out | apply below_alloc | apply pw_below_drewN | apply below_drew1) | exact HB.out)))); have n2_ := Aside0.mk (below_step (by repeat (first | (with_reducible first | exact HB.out | apply below_alloc | apply pw_below_drewN | apply below_drew1) | exact HB.out)) hb); clear HO_10; clear HB; have HO_10 := n0_; have HO117 := n1_; have HB := n2_; clear n0_ n1_ n2_; (try clear hb); (try clear hb2); (try clear hk); (try clear hi); (try clear ho0))))
                              (try simp only [Act.put, List.setIfInBounds_toArray, List.set_cons_zero, List.set_cons_succ])
                              go_cut [102] (fun v102 wc => ∃ (kq : Nat) (x102_32 : Bool), v102 = .bool x102_32 ∧ Aside0 (drovewaylaw09_FeudsClasses.j4 kq a0 l1 t106 (wrap64 (x8_3 + 1)) x9_3 x10_4 t114 x102_32 = some r) ∧ Aside0 (kq ≤ k4) ∧ Aside0 (Kd.R Kd.bool 4 wc w.heap.size (fun _ => True) (.slice Ao34 x10_4.length co34) x10_4) ∧ Aside0 (Kd.R k39 39 wc w.heap.size (fun _ => True) v116 t114) ∧ Aside0 (Below w.heap.size w wc))
                              case first =>
                                have H := HC33.out
                                clear HC33
                                by_cases c37 : t115 = 0
                                · rw [if_pos c37] at H
                                  have c37b0 : (t115 == 0) = true := beq_iff_eq.mpr c37
                                  have c37b1 : (t115 != 0) = false := bne_eq_false_iff_eq.mpr c37
                                  clear c37
                                  (first | rw [c37b0] | (simp only [i64_w, i32_w]; rw [c37b0]) | skip)
                                  have H' := Aside0.mk H
                                  clear H
                                  obtain ⟨Ao38, co38, eo38⟩ := Kd.R_slice HO117.out
                                  subst eo38
                                  go_wp2
                                  repeat (go_quiet (fail); try go_wp2)
                                  go_meet
                                  case rel => exact ⟨_, (((t114.length : Int) != (l1.length : Int))), (by first | rfl | (simp; done) | (simp [*]; done)), H', ⟨by have := HJ2.out; have := HJ11.out; have := HK3.out; have := HK4.out; first | omega | exact Nat.le_refl _⟩, ⟨by (with_reducible repeat (first | apply Kd.R_alloc | apply Kd.R_drewN | apply Kd.R_drew)); exact HO_10.out⟩, ⟨by (with_reducible repeat (first | apply Kd.R_alloc | apply Kd.R_drewN | apply Kd.R_drew)); exact HO117.out⟩, ⟨by repeat (first | (with_reducible first | exact HB.out | apply below_alloc | apply pw_below_drewN | apply below_drew1) | exact HB.out)⟩⟩
                                · rw [if_neg c37] at H
                                  have c37b0 : (t115 == 0) = false := beq_eq_false_iff_ne.mpr c37
                                  have c37b1 : (t115 != 0) = true := bne_iff_ne.mpr c37
                                  (first | rw [c37b0] | (simp only [i64_w, i32_w]; rw [c37b0]) | skip)
                                  have H' := Aside0.mk H
                                  clear H
                                  go_wp2
                                  repeat (go_quiet (fail); try go_wp2)
                                  go_meet
                                  case rel => exact ⟨_, (true), (by first | rfl | (simp; done) | (simp [*]; done)), H', ⟨by have := HJ2.out; have := HJ11.out; have := HK3.out; have := HK4.out; first | omega | exact Nat.le_refl _⟩, ⟨by (with_reducible repeat (first | apply Kd.R_alloc | apply Kd.R_drewN | apply Kd.R_drew)); exact HO_10.out⟩, ⟨by (with_reducible repeat (first | apply Kd.R_alloc | apply Kd.R_drewN | apply Kd.R_drew)); exact HO117.out⟩, ⟨by repeat (first | (with_reducible first | exact HB.out | apply below_alloc | apply pw_below_drewN | apply below_drew1) | exact HB.out)⟩⟩
                              case rest =>
                                clear HC33
                                try clear c1
                                try clear c2
                                try clear p2
                                try clear c3
                                try clear c5
                                try clear p6
                                try clear c7
                                try clear c11
                                try clear c15
                                try clear c15b0
                                try clear c15b1
                                try clear c17
                                try clear c17b0
                                try clear c17b1
                                try clear c19
                                try clear c20
                                try clear c20b0
                                try clear c20b1
                                try clear c24
                                try clear c24b0
                                try clear c25
                                try clear c25b0
                                try clear c26
                                try clear c26b0
                                try clear c26b1
                                try clear c28
                                try clear c31
                                try clear c31b0
                                try clear c31b1
                                try clear c37
                                try clear c37b0
                                try clear c37b1
                                try clear p2
                                try clear p6
                                obtain ⟨kq, x102_32, rfl, HA, HJ32, HO_10, HO_14, HB⟩ := hcut
                                cases kq with
                                | zero => exact absurd HA.out (by simp [drovewaylaw09_FeudsClasses.j4])
                                | succ kj32 =>
                                  have H := HA.out
                                  clear HA
                                  simp only [drovewaylaw09_FeudsClasses.j4] at H
                                  by_cases c39 : x102_32 = true
                                  · subst c39
                                    have H1 : (some false) = some r := by rw [if_pos rfl] at H; exact H
                                    clear H
                                    have H := H1
                                    clear H1
                                    obtain rfl := Option.some.inj H
                                    go_wp2
                                    repeat (go_quiet (fail); try go_wp2)
                                    go_ret
                                    exact ⟨by first | rfl | (simp [errW_none, errW_some] <;> rfl) | (simp only [← hji23]; first | rfl | (simp [errW_none, errW_some] <;> rfl)) | (simp [*, errW_none, errW_some] <;> rfl), by repeat (first | (with_reducible first | exact HB.out | apply below_alloc | apply pw_below_drewN | apply below_drew1) | exact HB.out)⟩
                                  · replace c39 := Bool.eq_false_iff.mpr c39
                                    subst c39
                                    have H1 : (drovewaylaw09_FeudsClasses.l2 kj32 a0 l1 t106 (wrap64 (x8_3 + 1)) x9_3 x10_4 t114 0) = some r := by rw [if_neg (show ¬ (false = true) by decide)] at H; exact H
                                    clear H
                                    have H := H1
                                    clear H1
                                    have H' := Aside0.mk H
                                    clear H
                                    go_wp2
                                    repeat (go_quiet (fail); try go_wp2)
                                    go_loopg [16] kj32 (fun kq v16 w' => ∃ (x16_6 : Int), v16 = .int .i64 x16_6 ∧ Aside0 (drovewaylaw09_FeudsClasses.l2 kq a0 l1 t106 (wrap64 (x8_3 + 1)) x9_3 x10_4 t114 x16_6 = some r) ∧ Aside0 (kq ≤ kj32) ∧ Aside0 (Kd.R Kd.bool 4 w' w.heap.size (fun _ => True) (.slice Ao34 x10_4.length co34) x10_4) ∧ Aside0 (Kd.R k39 39 w' w.heap.size (fun _ => True) v116 t114) ∧ Aside0 (Below w.heap.size w w'))
                                    case atStart => exact ⟨(0), (by first | rfl | (simp; done) | (simp [*]; done)), H', ⟨Nat.le_refl _⟩, ⟨by (with_reducible repeat (first | apply Kd.R_alloc | apply Kd.R_drewN | apply Kd.R_drew)); exact HO_10.out⟩, ⟨by (with_reducible repeat (first | apply Kd.R_alloc | apply Kd.R_drewN | apply Kd.R_drew)); exact HO_14.out⟩, ⟨by repeat (first | (with_reducible first | exact HB.out | apply below_alloc | apply pw_below_drewN | apply below_drew1) | exact HB.out)⟩⟩
                                    case round =>
                                      clear H'
                                      try clear c1
                                      try clear c2
                                      try clear p2
                                      try clear c3
                                      try clear c5
                                      try clear p6
                                      try clear c7
                                      try clear c11
                                      try clear c15
                                      try clear c15b0
                                      try clear c15b1
                                      try clear c17
                                      try clear c17b0
                                      try clear c17b1
                                      try clear c19
                                      try clear c20
                                      try clear c20b0
                                      try clear c20b1
                                      try clear c24
                                      try clear c24b0
                                      try clear c25
                                      try clear c25b0
                                      try clear c26
                                      try clear c26b0
                                      try clear c26b1
                                      try clear c28
                                      try clear c31
                                      try clear c31b0
                                      try clear c31b1
                                      try clear c37
                                      try clear c37b0
                                      try clear c37b1
                                      try clear c39
                                      try clear p2
                                      try clear p6
                                      obtain ⟨x16_6, rfl, HA, HK6, HO_10, HO_14, HB⟩ := hrel
                                      cases gk with
                                      | zero => exact absurd HA.out (by simp [drovewaylaw09_FeudsClasses.l2])
                                      | succ k6 =>
                                        have H := HA.out
                                        clear HA
                                        simp only [drovewaylaw09_FeudsClasses.l2] at H
                                        by_cases c40 : x16_6 < (l1.length : Int)
                                        · rw [if_pos c40] at H
                                          have c40b0 : decide (x16_6 < (l1.length : Int)) = true := decide_eq_true c40
                                          clear c40
                                          by_cases c41 : 0 ≤ x16_6
                                          · rw [if_pos c41] at H
                                            have c41b0 : decide (0 ≤ x16_6) = true := decide_eq_true c41
                                            clear c41
                                            by_cases c42 : x16_6 < (t114.length : Int)
                                            · rw [if_pos c42] at H
                                              have c42b0 : decide (x16_6 < (t114.length : Int)) = true := decide_eq_true c42
                                              clear c42
                                              by_cases c43 : x16_6 < (x10_4.length : Int)
                                              · rw [if_pos c43] at H
                                                have c43b0 : decide (x16_6 < (x10_4.length : Int)) = true := decide_eq_true c43
                                                clear c43
                                                by_cases c44 : (((rd_T39 t114 x16_6).f2) != (rdOf false x10_4 x16_6)) = true
                                                · rw [if_pos c44] at H
                                                  have c44b0 : (((rd_T39 t114 x16_6).f2) != (rdOf false x10_4 x16_6)) = true := c44
                                                  (try (have c44b1 : decide (((rd_T39 t114 x16_6).f2) = (rdOf false x10_4 x16_6)) = false := by simpa using c44))
                                                  (try (have c44b2 : (((rd_T39 t114 x16_6).f2) == (rdOf false x10_4 x16_6)) = false := by simpa using c44))
                                                  (try (have c44b3 : ¬ (((rd_T39 t114 x16_6).f2) = (rdOf false x10_4 x16_6)) := by simpa using c44))
                                                  clear c44
                                                  obtain rfl := Option.some.inj H
                                                  obtain ⟨Ao45, co45, eo45⟩ := Kd.R_slice HO_14.out
                                                  subst eo45
                                                  have p118 : 0 ≤ (x16_6 : Int) := of_decide_eq_true (by first | (with_reducible assumption) | assumption)
                                                  have q118 : x16_6 < (t114.length : Int) := of_decide_eq_true (by first | (with_reducible assumption) | assumption)
                                                  obtain ⟨ad118, e118, hx118_0, hx118_1, hx118_2⟩ := at_T39 (Kd.R_reads' HO_14.out).2.2 x16_6 p118 q118
                                                  cases e118
                                                  replace p118 := eq_true p118
                                                  replace q118 := eq_true q118
                                                  have p119 : 0 ≤ (x16_6 : Int) := of_decide_eq_true (by first | (with_reducible assumption) | assumption)
                                                  have q119 : x16_6 < (x10_4.length : Int) := of_decide_eq_true (by first | (with_reducible assumption) | assumption)
                                                  obtain ⟨ad119, e119, hx119_0⟩ := Kd.at_bool (Kd.R_reads' HO_10.out).2.2 x16_6 p119 q119
                                                  cases e119
                                                  replace p119 := eq_true p119
                                                  replace q119 := eq_true q119
                                                  go_wp2
                                                  repeat (go_quiet (fail); try go_wp2)
                                                  go_ret
                                                  exact ⟨by first | rfl | (simp [errW_none, errW_some] <;> rfl) | (simp only [← hji23]; first | rfl | (simp [errW_none, errW_some] <;> rfl)) | (simp [*, errW_none, errW_some] <;> rfl), by repeat (first | (with_reducible first | exact HB.out | apply below_alloc | apply pw_below_drewN | apply below_drew1) | exact HB.out)⟩
                                                · rw [if_neg c44] at H
                                                  have c44b0 : (((rd_T39 t114 x16_6).f2) != (rdOf false x10_4 x16_6)) = false := by simpa using c44
                                                  (try (have c44b1 : decide (((rd_T39 t114 x16_6).f2) = (rdOf false x10_4 x16_6)) = true := by simpa using c44))
                                                  (try (have c44b2 : (((rd_T39 t114 x16_6).f2) == (rdOf false x10_4 x16_6)) = true := by simpa using c44))
                                                  clear c44
                                                  have H' := Aside0.mk H
                                                  clear H
                                                  obtain ⟨Ao46, co46, eo46⟩ := Kd.R_slice HO_14.out
                                                  subst eo46
                                                  have p118 : 0 ≤ (x16_6 : Int) := of_decide_eq_true (by first | (with_reducible assumption) | assumption)
                                                  have q118 : x16_6 < (t114.length : Int) := of_decide_eq_true (by first | (with_reducible assumption) | assumption)
                                                  obtain ⟨ad118, e118, hx118_0, hx118_1, hx118_2⟩ := at_T39 (Kd.R_reads' HO_14.out).2.2 x16_6 p118 q118
                                                  cases e118
                                                  replace p118 := eq_true p118
                                                  replace q118 := eq_true q118
                                                  have p119 : 0 ≤ (x16_6 : Int) := of_decide_eq_true (by first | (with_reducible assumption) | assumption)
                                                  have q119 : x16_6 < (x10_4.length : Int) := of_decide_eq_true (by first | (with_reducible assumption) | assumption)
                                                  obtain ⟨ad119, e119, hx119_0⟩ := Kd.at_bool (Kd.R_reads' HO_10.out).2.2 x16_6 p119 q119
                                                  cases e119
                                                  replace p119 := eq_true p119
                                                  replace q119 := eq_true q119
                                                  go_wp2
                                                  repeat (go_quiet (fail); try go_wp2)
                                                  go_roundg k6
                                                  case measure => have := HJ2.out; have := HJ11.out; have := HK3.out; have := HK4.out; have := HJ32.out; have := HK6.out; omega
                                                  case rel => exact ⟨(wrap64 (x16_6 + 1)), (by first | rfl | (simp; done) | (simp [*]; done)), H', ⟨by have := HJ2.out; have := HJ11.out; have := HK3.out; have := HK4.out; have := HJ32.out; have := HK6.out; omega⟩, ⟨by (with_reducible repeat (first | apply Kd.R_alloc | apply Kd.R_drewN | apply Kd.R_drew)); exact HO_10.out⟩, ⟨by (with_reducible repeat (first | apply Kd.R_alloc | apply Kd.R_drewN | apply Kd.R_drew)); exact HO_14.out⟩, ⟨by repeat (first | (with_reducible first | exact HB.out | apply below_alloc | apply pw_below_drewN | apply below_drew1) | exact HB.out)⟩⟩
                                              · rw [if_neg c43] at H
                                                exact absurd H (by simp)
                                            · rw [if_neg c42] at H
                                              exact absurd H (by simp)
                                          · rw [if_neg c41] at H
                                            exact absurd H (by simp)
                                        · rw [if_neg c40] at H
                                          have c40b0 : decide (x16_6 < (l1.length : Int)) = false := decide_eq_false c40
                                          clear c40
                                          have H' := Aside0.mk H
                                          clear H
                                          go_wp2
                                          repeat (go_quiet (fail); try go_wp2)
                                          go_roundg k6
                                          case measure => have := HJ2.out; have := HJ11.out; have := HK3.out; have := HK4.out; have := HJ32.out; have := HK6.out; omega
                                          case rel => exact ⟨((wrap64 (x8_3 + 1))), (wrap64 (x9_3 + 1)), (by first | rfl | (simp; done) | (simp [*]; done)), (by first | rfl | (simp; done) | (simp [*]; done)), H', ⟨by have := HJ2.out; have := HJ11.out; have := HK3.out; have := HK4.out; have := HJ32.out; have := HK6.out; omega⟩, ⟨by repeat (first | (with_reducible first | exact HB.out | apply below_alloc | apply pw_below_drewN | apply below_drew1) | exact HB.out)⟩⟩
                            · rw [if_neg c31] at H
                              have c31b0 : (t113 == 0) = false := beq_eq_false_iff_ne.mpr c31
                              have c31b1 : (t113 != 0) = true := bne_iff_ne.mpr c31
                              by_cases c47 : t113 = 10
                              · rw [if_pos c47] at H
                                have c47b0 : (t113 == 10) = true := beq_iff_eq.mpr c47
                                have c47b1 : (t113 != 10) = false := bne_eq_false_iff_eq.mpr c47
                                clear c47
                                have H' := Aside0.mk H
                                clear H
                                obtain ⟨Ao48, co48, eo48⟩ := Kd.R_slice HO_10.out
                                subst eo48
                                go_wp2_with (first | (go_at_call 30; (with_reducible refine (feuds_Same.calls a0 _ _ l1 _ _ x10_4 t112 t113 _ ?side1 ?side2 ?side3 ?side4 A30.out).mono ?_); (case side1 => repeat (first | exact (Kd.C_below HR1.out HB.out) | (with_reducible refine Kd.C_alloc ?_ _) | (with_reducible refine Kd.C_drewN ?_ _) | (with_reducible refine Kd.C_drew ?_))); (case side2 => exact HC1.out); (case side3 => repeat (first | exact (Kd.R_reads' HO_10.out).2.2 | (with_reducible refine Kd.C_alloc ?_ _) | (with_reducible refine Kd.C_drewN ?_ _) | (with_reducible refine Kd.C_drew ?_))); (case side4 => exact (Kd.R_reads' HO_10.out).2.1); rintro e w49 ⟨rfl, hb⟩; have n0_ := Aside0.mk (Kd.R_below (by (with_reducible repeat (first | apply Kd.R_alloc | apply Kd.R_drewN | apply Kd.R_drew)); exact HO_10.out) hb); have n1_ := Aside0.mk (below_step (by repeat (first | (with_reducible first | exact HB.out | apply below_alloc | apply pw_below_drewN | apply below_drew1) | exact HB.out)) hb); clear HO_10; clear HB; have HO_10 := n0_; have HB := n1_; clear n0_ n1_; (try clear hb); (try clear hb2); (try clear hk); (try clear hi)))
                                repeat (go_quiet (first | (go_at_call 30; (with_reducible refine (feuds_Same.calls a0 _ _ l1 _ _ x10_4 t112 t113 _ ?side1 ?side2 ?side3 ?side4 A30.out).mono ?_); (case side1 => repeat (first | exact (Kd.C_below HR1.out HB.out) | (with_reducible refine Kd.C_alloc ?_ _) | (with_reducible refine Kd.C_drewN ?_ _) | (with_reducible refine Kd.C_drew ?_))); (case side2 => exact HC1.out); (case side3 => repeat (first | exact (Kd.R_reads' HO_10.out).2.2 | (with_reducible refine Kd.C_alloc ?_ _) | (with_reducible refine Kd.C_drewN ?_ _) | (with_reducible refine Kd.C_drew ?_))); (case side4 => exact (Kd.R_reads' HO_10.out).2.1); rintro e w49 ⟨rfl, hb⟩; have n0_ := Aside0.mk (Kd.R_below (by (with_reducible repeat (first | apply Kd.R_alloc | apply Kd.R_drewN | apply Kd.R_drew)); exact HO_10.out) hb); have n1_ := Aside0.mk (below_step (by repeat (first | (with_reducible first | exact HB.out | apply below_alloc | apply pw_below_drewN | apply below_drew1) | exact HB.out)) hb); clear HO_10; clear HB; have HO_10 := n0_; have HB := n1_; clear n0_ n1_; (try clear hb); (try clear hb2); (try clear hk); (try clear hi))); try go_wp2_with (first | (go_at_call 30; (with_reducible refine (feuds_Same.calls a0 _ _ l1 _ _ x10_4 t112 t113 _ ?side1 ?side2 ?side3 ?side4 A30.out).mono ?_); (case side1 => repeat (first | exact (Kd.C_below HR1.out HB.out) | (with_reducible refine Kd.C_alloc ?_ _) | (with_reducible refine Kd.C_drewN ?_ _) | (with_reducible refine Kd.C_drew ?_))); (case side2 => exact HC1.out); (case side3 => repeat (first | exact (Kd.R_reads' HO_10.out).2.2 | (with_reducible refine Kd.C_alloc ?_ _) | (with_reducible refine Kd.C_drewN ?_ _) | (with_reducible refine Kd.C_drew ?_))); (case side4 => exact (Kd.R_reads' HO_10.out).2.1); rintro e w49 ⟨rfl, hb⟩; have n0_ := Aside0.mk (Kd.R_below (by (with_reducible repeat (first | apply Kd.R_alloc | apply Kd.R_drewN | apply Kd.R_drew)); exact HO_10.out) hb); have n1_ := Aside0.mk (below_step (by repeat (first | (with_reducible first | exact HB.out | apply below_alloc | apply pw_below_drewN | apply below_drew1) | exact HB.out)) hb); clear HO_10; clear HB; have HO_10 := n0_; have HB := n1_; clear n0_ n1_; (try clear hb); (try clear hb2); (try clear hk); (try clear hi))))
                                go_roundg k4
                                case measure => have := HJ2.out; have := HJ11.out; have := HK3.out; have := HK4.out; omega
                                case rel => exact ⟨(x8_3), (wrap64 (x9_3 + 1)), (by first | rfl | (simp; done) | (simp [*]; done)), (by first | rfl | (simp; done) | (simp [*]; done)), H', ⟨by have := HJ2.out; have := HJ11.out; have := HK3.out; have := HK4.out; omega⟩, ⟨by repeat (first | (with_reducible first | exact HB.out | apply below_alloc | apply pw_below_drewN | apply below_drew1) | exact HB.out)⟩⟩
                              · rw [if_neg c47] at H
                                have c47b0 : (t113 == 10) = false := beq_eq_false_iff_ne.mpr c47
                                have c47b1 : (t113 != 10) = true := bne_iff_ne.mpr c47
                                obtain rfl := Option.some.inj H
                                obtain ⟨Ao50, co50, eo50⟩ := Kd.R_slice HO_10.out
                                subst eo50
                                go_wp2_with (first | (go_at_call 30; (with_reducible refine (feuds_Same.calls a0 _ _ l1 _ _ x10_4 t112 t113 _ ?side1 ?side2 ?side3 ?side4 A30.out).mono ?_); (case side1 => repeat (first | exact (Kd.C_below HR1.out HB.out) | (with_reducible refine Kd.C_alloc ?_ _) | (with_reducible refine Kd.C_drewN ?_ _) | (with_reducible refine Kd.C_drew ?_))); (case side2 => exact HC1.out); (case side3 => repeat (first | exact (Kd.R_reads' HO_10.out).2.2 | (with_reducible refine Kd.C_alloc ?_ _) | (with_reducible refine Kd.C_drewN ?_ _) | (with_reducible refine Kd.C_drew ?_))); (case side4 => exact (Kd.R_reads' HO_10.out).2.1); rintro e w51 ⟨rfl, hb⟩; have n0_ := Aside0.mk (Kd.R_below (by (with_reducible repeat (first | apply Kd.R_alloc | apply Kd.R_drewN | apply Kd.R_drew)); exact HO_10.out) hb); have n1_ := Aside0.mk (below_step (by repeat (first | (with_reducible first | exact HB.out | apply below_alloc | apply pw_below_drewN | apply below_drew1) | exact HB.out)) hb); clear HO_10; clear HB; have HO_10 := n0_; have HB := n1_; clear n0_ n1_; (try clear hb); (try clear hb2); (try clear hk); (try clear hi)))
                                repeat (go_quiet (first | (go_at_call 30; (with_reducible refine (feuds_Same.calls a0 _ _ l1 _ _ x10_4 t112 t113 _ ?side1 ?side2 ?side3 ?side4 A30.out).mono ?_); (case side1 => repeat (first | exact (Kd.C_below HR1.out HB.out) | (with_reducible refine Kd.C_alloc ?_ _) | (with_reducible refine Kd.C_drewN ?_ _) | (with_reducible refine Kd.C_drew ?_))); (case side2 => exact HC1.out); (case side3 => repeat (first | exact (Kd.R_reads' HO_10.out).2.2 | (with_reducible refine Kd.C_alloc ?_ _) | (with_reducible refine Kd.C_drewN ?_ _) | (with_reducible refine Kd.C_drew ?_))); (case side4 => exact (Kd.R_reads' HO_10.out).2.1); rintro e w51 ⟨rfl, hb⟩; have n0_ := Aside0.mk (Kd.R_below (by (with_reducible repeat (first | apply Kd.R_alloc | apply Kd.R_drewN | apply Kd.R_drew)); exact HO_10.out) hb); have n1_ := Aside0.mk (below_step (by repeat (first | (with_reducible first | exact HB.out | apply below_alloc | apply pw_below_drewN | apply below_drew1) | exact HB.out)) hb); clear HO_10; clear HB; have HO_10 := n0_; have HB := n1_; clear n0_ n1_; (try clear hb); (try clear hb2); (try clear hk); (try clear hi))); try go_wp2_with (first | (go_at_call 30; (with_reducible refine (feuds_Same.calls a0 _ _ l1 _ _ x10_4 t112 t113 _ ?side1 ?side2 ?side3 ?side4 A30.out).mono ?_); (case side1 => repeat (first | exact (Kd.C_below HR1.out HB.out) | (with_reducible refine Kd.C_alloc ?_ _) | (with_reducible refine Kd.C_drewN ?_ _) | (with_reducible refine Kd.C_drew ?_))); (case side2 => exact HC1.out); (case side3 => repeat (first | exact (Kd.R_reads' HO_10.out).2.2 | (with_reducible refine Kd.C_alloc ?_ _) | (with_reducible refine Kd.C_drewN ?_ _) | (with_reducible refine Kd.C_drew ?_))); (case side4 => exact (Kd.R_reads' HO_10.out).2.1); rintro e w51 ⟨rfl, hb⟩; have n0_ := Aside0.mk (Kd.R_below (by (with_reducible repeat (first | apply Kd.R_alloc | apply Kd.R_drewN | apply Kd.R_drew)); exact HO_10.out) hb); have n1_ := Aside0.mk (below_step (by repeat (first | (with_reducible first | exact HB.out | apply below_alloc | apply pw_below_drewN | apply below_drew1) | exact HB.out)) hb); clear HO_10; clear HB; have HO_10 := n0_; have HB := n1_; clear n0_ n1_; (try clear hb); (try clear hb2); (try clear hk); (try clear hi))))
                                go_ret
                                exact ⟨by first | rfl | (simp [errW_none, errW_some] <;> rfl) | (simp only [← hji23]; first | rfl | (simp [errW_none, errW_some] <;> rfl)) | (simp [*, errW_none, errW_some] <;> rfl), by repeat (first | (with_reducible first | exact HB.out | apply below_alloc | apply pw_below_drewN | apply below_drew1) | exact HB.out)⟩
                    · rw [if_neg c24] at H
                      have c24b0 : decide (x9_3 < (ji23)) = false := decide_eq_false c24
                      clear c24
                      obtain ⟨ji52, hji52⟩ : ∃ j_ : Int, (wrap64 (a0 - t106)) = j_ := ⟨_, rfl⟩
                      replace H : (if 0 ≤ (ji52) then (if x8_3 = (shl .i64 1 (ji52)) then ((drovewaylaw09_alive.f).bind fun t108 => (some t108)) else (some false)) else (none)) = some r := by first | (rw [hji52] at H; exact H) | (simp only [hji52] at H ⊢; exact H)
                      have hji52w : (IntKind.i64.wrap (a0 - t106)) = ji52 := (i64_w _).trans hji52
                      by_cases c53 : 0 ≤ (ji52)
                      · rw [if_pos c53] at H
                        have c53b0 := eq_true c53
                        have c53b1 : decide (0 ≤ (ji52)) = true := decide_eq_true c53
                        clear c53
                        obtain ⟨ji54, hji54⟩ : ∃ j_ : Int, (shl .i64 1 (ji52)) = j_ := ⟨_, rfl⟩
                        replace H : (if x8_3 = (ji54) then ((drovewaylaw09_alive.f).bind fun t108 => (some t108)) else (some false)) = some r := by first | (rw [hji54] at H; exact H) | (simp only [hji54] at H ⊢; exact H)
                        have hji54_ : (IntKind.i64.wrap (1 * 2 ^ min (ji52).toNat 64)) = ji54 := hji54
                        have hji54z : (ji52) ≤ 64 → (IntKind.i64.wrap (1 * 2 ^ (ji52).toNat)) = ji54 := shl_small hji54
                        have hji54u : (IntKind.i64.wrap (2 ^ min (ji52).toNat 64)) = ji54 := by have h_ := hji54_; rw [Int.one_mul] at h_; exact h_
                        have hji54v : (ji52) ≤ 64 → (IntKind.i64.wrap (2 ^ (ji52).toNat)) = ji54 := fun hle_ => by have h_ := hji54z hle_; rw [Int.one_mul] at h_; exact h_
                        have hji54y : (wrap64 (1 * 2 ^ min (ji52).toNat 64)) = ji54 := (i64_w _).symm.trans hji54_
                        have hji54x : (ji52) ≤ 64 → (wrap64 (1 * 2 ^ (ji52).toNat)) = ji54 := fun h_ => (i64_w _).symm.trans (hji54z h_)
                        by_cases c55 : x8_3 = (ji54)
                        · rw [if_pos c55] at H
                          have c55b0 : (x8_3 == (ji54)) = true := beq_iff_eq.mpr c55
                          have c55b1 : (x8_3 != (ji54)) = false := bne_eq_false_iff_eq.mpr c55
                          clear c55
                          replace H := Option.bind_eq_some_iff.mp H
                          obtain ⟨t108, A560, H⟩ := H
                          replace H : (some t108) = some r := H
                          have A56 := Aside0.mk A560
                          clear A560
                          obtain rfl := Option.some.inj H
                          go_wp2_with (first | (go_at_call 17; (with_reducible refine (drovewaylaw09_alive.calls  t108 _ A56.out).mono ?_); rintro e w57 ⟨rfl, hb⟩; have n0_ := Aside0.mk (below_step (by repeat (first | (with_reducible first | exact HB.out | apply below_alloc | apply pw_below_drewN | apply below_drew1) | exact HB.out)) hb); clear HB; have HB := n0_; clear n0_; (try clear hb); (try clear hb2); (try clear hk); (try clear hi)))
                          repeat (go_quiet (first | (go_at_call 17; (with_reducible refine (drovewaylaw09_alive.calls  t108 _ A56.out).mono ?_); rintro e w57 ⟨rfl, hb⟩; have n0_ := Aside0.mk (below_step (by repeat (first | (with_reducible first | exact HB.out | apply below_alloc | apply pw_below_drewN | apply below_drew1) | exact HB.out)) hb); clear HB; have HB := n0_; clear n0_; (try clear hb); (try clear hb2); (try clear hk); (try clear hi))); try go_wp2_with (first | (go_at_call 17; (with_reducible refine (drovewaylaw09_alive.calls  t108 _ A56.out).mono ?_); rintro e w57 ⟨rfl, hb⟩; have n0_ := Aside0.mk (below_step (by repeat (first | (with_reducible first | exact HB.out | apply below_alloc | apply pw_below_drewN | apply below_drew1) | exact HB.out)) hb); clear HB; have HB := n0_; clear n0_; (try clear hb); (try clear hb2); (try clear hk); (try clear hi))))
                          go_ret
                          exact ⟨by first | rfl | (simp [errW_none, errW_some] <;> rfl) | (simp only [← hji23, ← hji52, ← hji54]; first | rfl | (simp [errW_none, errW_some] <;> rfl)) | (simp [*, errW_none, errW_some] <;> rfl), by repeat (first | (with_reducible first | exact HB.out | apply below_alloc | apply pw_below_drewN | apply below_drew1) | exact HB.out)⟩
                        · rw [if_neg c55] at H
                          have c55b0 : (x8_3 == (ji54)) = false := beq_eq_false_iff_ne.mpr c55
                          have c55b1 : (x8_3 != (ji54)) = true := bne_iff_ne.mpr c55
                          obtain rfl := Option.some.inj H
                          go_wp2
                          repeat (go_quiet (fail); try go_wp2)
                          go_ret
                          exact ⟨by first | rfl | (simp [errW_none, errW_some] <;> rfl) | (simp only [← hji23, ← hji52, ← hji54]; first | rfl | (simp [errW_none, errW_some] <;> rfl)) | (simp [*, errW_none, errW_some] <;> rfl), by repeat (first | (with_reducible first | exact HB.out | apply below_alloc | apply pw_below_drewN | apply below_drew1) | exact HB.out)⟩
                      · rw [if_neg c53] at H
                        exact absurd H (by simp)

end Go.Proofs.Ytaegldcifhgnmaa.PFeudsClasses

-- Printed by hprint.py (this claim's own program, over the kit's print.py) out of the translation and contracts by hand. Not trusted: Lean checks it.
namespace Go.Proofs.Ytaegldcifhgnmaa.PFeudsClasses
open Go.Proofs.Ytaegldcifhgnmaa.A Go.Proofs.Ytaegldcifhgnmaa.B
open Go.RowKit Go.Proofs.YtaegldcifhgnmaaW.PrintWords Go.Proofs.YtaegldcifhgnmaaW.PrintLast Go.Proofs.YtaegldcifhgnmaaW.PrintMore
attribute [local go_sem] max2_int min2_int max_two min_two max_three min_three max_four min_four   -- for this text's walks alone
set_option linter.unusedVariables false
set_option linter.unusedSimpArgs false

end Go.Proofs.Ytaegldcifhgnmaa.PFeudsClasses

/- FeudsClasses, plain. -/
namespace Go.Proofs.Ytaegldcifhgnmaa.Pure
open Go.Proofs.Ytaegldcifhgnmaa.A Go.Proofs.Ytaegldcifhgnmaa.B Go.Proofs.Ytaegldcifhgnmaa.PFeudsClasses
open Go.RowKit Go.Proofs.YtaegldcifhgnmaaW.PrintWords Go.Proofs.YtaegldcifhgnmaaW.PrintMore

theorem alive_is : ((drovewaylaw09_alive.f).bind fun t => (some t : Option Bool)) = some true := rfl
section
variable {l : List S39} {n : Nat}
/-- How many of the first numbers are ways. -/
def wayK (n : Nat) (l : List S39) (x : Nat) : Nat := ((List.range x).filter (wayB n l)).length
theorem wayK_succ (x : Nat) : wayK n l (x + 1) = wayK n l x + if wayB n l x = true then 1 else 0 := by
  unfold wayK
  rw [List.range_succ, List.filter_append, List.length_append]
  cases h : wayB n l x <;> simp [h]
theorem wayK_le (x : Nat) : wayK n l x ≤ x := by
  have := List.length_filter_le (wayB n l) (List.range x)
  rw [List.length_range] at this
  exact this
theorem asK_succ (x i : Nat) : ((List.range (i + 1)).map fun j => x.testBit j) = ((List.range i).map fun j => x.testBit j) ++ [x.testBit i] := by
  rw [List.range_succ, List.map_append]; rfl
theorem cls_l2 {g : Int} {m x : Int} {fs : List Bool} {T : List S39} (hl : l.length ≤ 8) (hT : T.length = l.length) (ha : fs.length = l.length) (heq : ∀ i, i < l.length → (T.getD i z39).f2 = fs.getD i false) {R : Bool} (h : Ev (fun k => drovewaylaw09_FeudsClasses.l0 k n l g m (wrap64 (x + 1))) R) :
    ∀ d i, l.length - i = d → i ≤ l.length → Ev (fun k => drovewaylaw09_FeudsClasses.l2 k n l g m x fs T (i : Int)) R := by
  intro d
  induction d with
  | zero =>
    intro i hd hi
    exact Ev.step (fun k => by rw [drovewaylaw09_FeudsClasses.l2, if_neg (by omega)]) h
  | succ d ih =>
    intro i hd hi
    have hil : i < l.length := by omega
    have hrd : rdOf false fs (i : Int) = fs.getD i false := by simp [rdOf]
    refine Ev.step (fun k => ?_) (ih (i + 1) (by omega) (by omega))
    rw [drovewaylaw09_FeudsClasses.l2, if_pos (by omega), if_pos (by omega), if_pos (by omega), if_pos (by omega), rdT, hrd, heq i hil, bne_self_eq_false, if_neg (by decide), wrapS hil (by omega)]
theorem cls_l1 (ht : tiesE n l = 0) (hl : l.length ≤ 8) {g : Int} {x : Nat} (hx : x < 2 ^ l.length) {R : Bool} (h : Ev (fun k => drovewaylaw09_FeudsClasses.l0 k n l g (wayK n l (x + 1) : Int) ((x + 1 : Nat) : Int)) R) :
    ∀ d i, l.length - i = d → i ≤ l.length → Ev (fun k => drovewaylaw09_FeudsClasses.l1 k n l g (wayK n l x : Int) (x : Int) ((List.range i).map fun j => x.testBit j) (i : Int)) R := by
  have hx8 : 2 ^ l.length ≤ 256 := pow8 hl
  intro d
  induction d with
  | zero =>
    intro i hd hi
    obtain rfl : i = l.length := by omega
    have ha : (asL l x).length = l.length := by unfold asL; rw [List.length_map, List.length_range]
    have hw := wayK_le (n := n) (l := l) x
    have hsucc := wayK_succ (n := n) (l := l) x
    unfold wayB at hsucc
    cases hs : sameN n l (asL l x) with
    | none =>
      have hsame : feuds_Same.f n l (asL l x) = some (0, 10) := by
        unfold feuds_Same.f sameF
        rw [if_pos ht, if_pos ha, Int.toNat_natCast, hs]
      rw [hs] at hsucc
      refine Ev.step (fun k => ?_) h
      rw [drovewaylaw09_FeudsClasses.l1, if_neg (by omega)]
      show (feuds_Same.f n l (asL l x)).bind _ = _
      rw [hsame]
      simp only [Option.bind_some]
      rw [if_neg (by decide), if_pos trivial, hsucc, wrapS hx (by omega)]
      rfl
    | some s =>
      have hsame : feuds_Same.f n l (asL l x) = some ((s : Int), 0) := by
        unfold feuds_Same.f sameF
        rw [if_pos ht, if_pos ha, Int.toNat_natCast, hs]
      rw [hs] at hsucc
      have hsn := List.mem_range.mp (List.mem_of_find?_eq_some hs)
      have hsb := List.find?_some hs
      have hsw : feuds_Switch.f n l (s : Int) = some (switchF l s, 0) := by
        have hwz : wrongE n l (s : Int) = 0 := by
          unfold wrongE
          rw [if_pos ht, if_pos]
          unfold setB
          rw [Int.toNat_natCast, Bool.and_eq_true, decide_eq_true_iff, decide_eq_true_iff]
          exact ⟨by omega, by exact_mod_cast hsn⟩
        unfold feuds_Switch.f
        rw [hwz, if_pos rfl, Int.toNat_natCast]
      have hw1 : wrap64 ((wayK n l x : Int) + 1) = (wayK n l (x + 1) : Int) := by
        rw [hsucc, Option.isSome_some, if_pos rfl, wrap64_id (by omega) (by omega)]; rfl
      refine Ev.step (f := fun k => drovewaylaw09_FeudsClasses.j4 k n l g (wayK n l (x + 1) : Int) (x : Int) (asL l x) (switchF l s) false) (fun k => ?_) ?_
      · rw [drovewaylaw09_FeudsClasses.l1, if_neg (by omega)]
        show (feuds_Same.f n l (asL l x)).bind _ = _
        rw [hsame]
        simp only [Option.bind_some]
        rw [if_pos trivial, hsw]
        simp only [Option.bind_some]
        rw [if_pos trivial, hw1, switchF_len, bne_self_eq_false]
        rfl
      · refine Ev.step (f := fun k => drovewaylaw09_FeudsClasses.l2 k n l g (wayK n l (x + 1) : Int) (x : Int) (asL l x) (switchF l s) 0) (fun k => by rw [drovewaylaw09_FeudsClasses.j4, if_neg (by decide)]) ?_
        refine cls_l2 hl (switchF_len l s) ha (fun i hi => ?_) (by rw [wrapS hx (by omega)]; exact h) l.length 0 (by omega) (Nat.zero_le _)
        have := (List.all_eq_true.mp hsb) i (List.mem_range.mpr hi)
        unfold sameT at this
        rw [switchF_get hi]
        exact beq_iff_eq.mp this
  | succ d ih =>
    intro i hd hi
    have hil : i < l.length := by omega
    refine Ev.step (fun k => ?_) (ih (i + 1) (by omega) (by omega))
    have hb : (Int.tmod (shr .i64 (x : Int) (i : Int)) 2 == 1) = x.testBit i := by
      rw [shr_mod x i (by omega)]
      cases x.testBit i <;> rfl
    rw [drovewaylaw09_FeudsClasses.l1, if_pos (by omega), if_pos (by omega), List.length_map, List.length_range, if_pos (by omega), hb, wrapS hil (by omega), asK_succ]
theorem cls_l0 (ht : tiesE n l = 0) (hl : l.length ≤ 8) : ∀ d x, 2 ^ l.length - x = d → x ≤ 2 ^ l.length → Ev (fun k => drovewaylaw09_FeudsClasses.l0 k n l ((groupsF anyT n l).length : Int) (wayK n l x : Int) (x : Int)) true := by
  have hx8 : 2 ^ l.length ≤ 256 := pow8 hl
  have h1 := tiesE_parts ht
  intro d
  induction d with
  | zero =>
    intro x hd hx
    obtain rfl : x = 2 ^ l.length := by omega
    have hg := groups_count (q := anyT) (n := n) (l := l) (by omega) (tiesE_ok ht)
    have hr := reps_le (q := anyT) (n := n) (l := l) l.length
    have hc := ways_count (n := n) (l := l) (by omega) (tiesE_ok ht)
    refine Ev.step (f := fun _ => some true) (fun k => ?_) (Ev.now _)
    have hw : wrap64 ((n : Int) - ((groupsF anyT n l).length : Int)) = ((n - (groupsF anyT n l).length : Nat) : Int) := by rw [wrap64_id (by omega) (by omega)]; omega
    rw [drovewaylaw09_FeudsClasses.l0, shl_one (by omega), if_neg (by omega), hw, if_pos (by omega), shl_one (by omega), if_pos]
    · exact alive_is
    · unfold wayK
      rw [hc]
  | succ d ih =>
    intro x hd hx
    refine Ev.step (fun k => ?_) (cls_l1 ht hl (by omega) (ih (x + 1) (by omega) (by omega)) l.length 0 (by omega) (Nat.zero_le _))
    rw [drovewaylaw09_FeudsClasses.l0, shl_one (by omega), if_pos (by omega)]
    rfl
end
theorem FeudsClasses (a0 : Int) (l1 : List S39) : ∃ k, drovewaylaw09_FeudsClasses.f k a0 l1 = some true := by
  refine Ev.rounds ?_
  unfold drovewaylaw09_FeudsClasses.f
  rw [few_eq]
  simp only [Option.bind_some]
  have hal : Ev (fun k => drovewaylaw09_FeudsClasses.j0 k a0 l1 true) true :=
    Ev.step (f := fun _ => some true) (fun k => by rw [drovewaylaw09_FeudsClasses.j0, if_pos rfl]; exact alive_is) (Ev.now _)
  by_cases h60 : l1.length ≤ 60
  · rw [show decide (l1.length ≤ 60 ∧ ([] : List Int).length ≤ 60) = true from decide_eq_true ⟨h60, by decide⟩]
    refine Ev.congr (f := fun k => (drovewayref09_Ties.f k a0 l1).bind fun t120 => (drovewaylaw09_FeudsClasses.j0 k a0 l1 (t120 != 0))) (fun k => if_pos rfl) ?_
    refine Ev.bind (f := fun k t120 => (drovewaylaw09_FeudsClasses.j0 k a0 l1 (t120 != 0))) (Ties_ev (n := a0) (l := l1) (by omega)) ?_
    by_cases ht : tiesE a0 l1 = 0
    · have h1 := tiesE_parts ht
      obtain ⟨n, rfl⟩ : ∃ n : Nat, a0 = n := ⟨a0.toNat, by omega⟩
      rw [ht, bne_self_eq_false]
      refine Ev.step (f := fun k => ((drovewayref09_Groups.f k n l1).bind fun t124 => (if (0 : Int) = 0 then (if 0 ≤ (wrap64 ((wrap64 ((l1.length : Int) - n)) + t124)) then (drovewaylaw09_FeudsClasses.j1 k n l1 t124 ((((2 ^ (classK n l1).toNat : Nat) : Int)) != (shl .i64 1 (wrap64 ((wrap64 ((l1.length : Int) - n)) + t124))))) else (none)) else (drovewaylaw09_FeudsClasses.j1 k n l1 t124 true)))) (fun k => ?_) ?_
      · rw [drovewaylaw09_FeudsClasses.j0, if_neg (by decide), classes_some ht]; rfl
      · refine Ev.bind (f := fun k t124 => (if (0 : Int) = 0 then (if 0 ≤ (wrap64 ((wrap64 ((l1.length : Int) - n)) + t124)) then (drovewaylaw09_FeudsClasses.j1 k n l1 t124 ((((2 ^ (classK n l1).toNat : Nat) : Int)) != (shl .i64 1 (wrap64 ((wrap64 ((l1.length : Int) - n)) + t124))))) else (none)) else (drovewaylaw09_FeudsClasses.j1 k n l1 t124 true))) (rGroups_ev ht) ?_
        refine Ev.congr (f := fun k => drovewaylaw09_FeudsClasses.j1 k n l1 ((groupsF anyT n l1).length : Int) false) (fun k => ?_) ?_
        · rw [if_pos rfl, class_wrap ht, if_pos (class_ok ht).1, class_shl ht, bne_self_eq_false]
        · by_cases h8 : l1.length ≤ 8
          · refine Ev.step (fun k => ?_) (cls_l0 ht h8 (2 ^ l1.length) 0 (Nat.sub_zero _) (Nat.zero_le _))
            rw [drovewaylaw09_FeudsClasses.j1, if_neg (by decide), if_neg (by omega)]; rfl
          · refine Ev.step (f := fun _ => some true) (fun k => ?_) (Ev.now _)
            rw [drovewaylaw09_FeudsClasses.j1, if_neg (by decide), if_pos (by omega)]
            exact alive_is
    · rw [show (tiesE a0 l1 != 0) = true from by rw [bne_iff_ne]; exact ht]
      exact hal
  · rw [show decide (l1.length ≤ 60 ∧ ([] : List Int).length ≤ 60) = false from decide_eq_false fun h => h60 h.1]
    exact Ev.congr (fun k => if_neg (by decide)) hal
end Go.Proofs.Ytaegldcifhgnmaa.Pure

/- FeudsClasses, as it is called. -/
namespace Go.Proofs.Ytaegldcifhgnmaa.B
open Go.Proofs.Ytaegldcifhgnmaa.A
open Go.RowKit Go.Proofs.YtaegldcifhgnmaaW.PrintWords Go.Proofs.YtaegldcifhgnmaaW.PrintMore
theorem classes_any (a0 : Int) (A1 : Option Addr) (c1 : Nat) (l1 : List S39) (w : World) (hr1 : Kd.C k39 w A1 l1.length l1) (hc1 : l1.length ≤ c1) :
    Calls Try.prog 11 #[.int .i64 a0, .slice A1 l1.length c1] w fun e w' => e = .returned (.bool true) ∧ Below w.heap.size w w' := by
  obtain ⟨k, h⟩ := Pure.FeudsClasses a0 l1
  exact PFeudsClasses.drovewaylaw09_FeudsClasses.calls k a0 A1 c1 l1 true w hr1 hc1 h
end Go.Proofs.Ytaegldcifhgnmaa.B

/- An argument that is a slice of ties, opened to a row of cells. -/
namespace Go.Proofs.Ytaegldcifhgnmaa.A
open Go.ChangeShapes Go.WideShapes Go.Deep
open Go.RowKit Go.Proofs.YtaegldcifhgnmaaW.PrintWords

theorem list_of {α : Type} {P : Nat → α → Prop} : ∀ n, (∀ i, i < n → ∃ x, P i x) → ∃ l : List α, l.length = n ∧ ∀ (i : Nat) (x : α), l[i]? = some x → P i x := by
  intro n
  induction n with
  | zero => exact fun _ => ⟨[], rfl, fun i x h => by simp at h⟩
  | succ n ih =>
    intro h
    obtain ⟨l, hl, hp⟩ := ih (fun i hi => h i (by omega))
    obtain ⟨x, hx⟩ := h n (by omega)
    refine ⟨l ++ [x], by simp [hl], fun i y hy => ?_⟩
    by_cases hi : i < l.length
    · rw [List.getElem?_append_left hi] at hy
      exact hp i y hy
    · have e : i = n := by
        have := (List.getElem?_eq_some_iff.1 hy).1
        rw [List.length_append, List.length_singleton] at this
        omega
      subst e
      have : x = y := by simpa [← hl] using hy
      subst this
      exact hx

set_option maxRecDepth 100000 in
theorem open_ties {H : Type} {enc : TypeId × Value → H} {W : World} {a : Option Addr} {len cap : Nat} {d : DataW H} {p : List MemPlace} (h : DataW.Trod enc Try.prog W 0 (fun _ => true) true 22 (.slice a len cap) d p) :
    ∃ ps : List S39, ps.length = len ∧ len ≤ cap ∧ cap ≤ maxLen ∧ Kd.C k39 W a len ps := by
  obtain ⟨fuel, hf⟩ := h
  rcases open_slice Try.underlying22 hf with ⟨hcs, _⟩ | ⟨x, l, c, m, n, D, Pl, hcs, _, hl, hm, hmm, _, hi⟩
  · simp [Value.cells] at hcs
    obtain ⟨rfl, rfl, rfl⟩ := hcs
    exact ⟨[], rfl, Nat.le_refl _, Nat.zero_le _, rfl, by omega, fun h => absurd h (by omega)⟩
  · simp [Value.cells] at hcs
    obtain ⟨rfl, rfl, rfl⟩ := hcs
    have hC : Try.prog.cellsOf 39 = 3 := by kernel_rfl
    have he : ∀ i, i < len → ∃ q : S39, W.cell? (x.add (i * 3)) = some (.int .i64 q.f0) ∧ W.cell? (x.add (i * 3 + 1)) = some (.int .i64 q.f1) ∧ W.cell? (x.add (i * 3 + 2)) = some (.bool q.f2) := by
      intro i hil
      obtain ⟨cs', hc, ht'⟩ := hi i (by rw [hmm, if_pos rfl]; omega)
      rw [hC] at hc
      obtain ⟨ys, n', _, _, hlen, hyl, hfd⟩ := DataW.trod_struct Try.underlying39 ht'
      obtain ⟨_, hcl, hat⟩ := World.cells?_some hc
      have h0 := hfd 0 _ rfl
      have h1 := hfd 1 _ rfl
      have h2 := hfd 2 _ rfl
      match cs', hcl, ys, hyl with
      | [c0, c1, c2], _, [y0, y1, y2], _ =>
        have e0 : Try.prog.cellsOf 3 = 1 := by kernel_rfl
        have e4 : Try.prog.cellsOf 4 = 1 := by kernel_rfl
        simp [e0, e4] at h0 h1 h2
        obtain ⟨n0, hn0, _, _⟩ := DataW.trod_int Try.underlying3 h0
        obtain ⟨n1, hn1, _, _⟩ := DataW.trod_int Try.underlying3 h1
        obtain ⟨n2, hn2, _⟩ := DataW.trod_bool Try.underlying4 h2
        simp at hn0 hn1 hn2
        subst hn0 hn1 hn2
        refine ⟨⟨n0, n1, n2⟩, ?_, ?_, ?_⟩
        · have := hat 0 (by omega)
          rw [Go.Deep.add_add] at this
          exact this
        · have := hat 1 (by omega)
          rw [Go.Deep.add_add] at this
          exact this
        · have := hat 2 (by omega)
          rw [Go.Deep.add_add] at this
          exact this
    obtain ⟨ps, hps, hall⟩ := list_of len he
    refine ⟨ps, hps, hl, hm, hps, by unfold maxLen at hm; omega, fun _ => ⟨x, rfl, fun j q hj => ⟨[.int .i64 q.f0, .int .i64 q.f1, .bool q.f2], rfl, k39_mk W q, fun i u hu => ?_⟩⟩⟩
    obtain ⟨g0, g1, g2⟩ := hall j q hj
    match i, hu with
    | 0, hu => cases hu; exact g0
    | 1, hu => cases hu; exact g1
    | 2, hu => cases hu; exact g2
end Go.Proofs.Ytaegldcifhgnmaa.A

/- FeudsClasses holds: its code returns true and leaves what it was given as it was. Conditions: those of the given statement, none besides. -/
namespace Go.Proofs.Ytaegldcifhgnmaa.feudsClasses
open Go.ChangeShapes Go.WideShapes Go.ChangeAt Go.RowKit
open Go.ChangeMaps (open_string shut_string)
open Go.Proofs.YtaegldcifhgnmaaW.PrintWords
open Go.Proofs.Ytaegldcifhgnmaa.A Go.Proofs.Ytaegldcifhgnmaa.B
set_option linter.unusedVariables false
theorem own : ownKnob Try.prog.godebug = none := by kernel_rfl
theorem laidOut : laidOutB Try.prog = true := by kernel_rfl
def IsRow (k : IntKind) (w : World) (a : Option Addr) (len cap : Nat) (zs : List Int) : Prop :=
  (a = none ∧ len = 0 ∧ cap = 0 ∧ zs = []) ∨
  ∃ x, a = some x ∧ len ≤ cap ∧ cap ≤ maxLen ∧ zs.length = cap ∧ (∀ i, i < zs.length → w.cell? (x.add i) = some (.int k (zs.getD i 0))) ∧ ∀ n ∈ zs, (Lit.int k n).wf = true
set_option maxRecDepth 100000 in
theorem lifted (os : Os) (started : os.Started) (H : Type) (enc : TypeId × Value → H) :
    ReturnsInHanded {} Try.checked os 11 .any (Rows.feudsClassesSpec.pre6 enc Try.prog Try.f11 Rows.feudsClassesRow.domain false) (Rows.feudsClassesSpec.post enc Try.prog Try.f11 false true false false) := by
  refine returnsInHanded_of_change_sized (C := Try.checked) own started (by kernel_rfl) Try.func11
    (ChangeSpec.witness6 (enc := enc) (C := Try.checked) false ⟨#[], #[.int .i64 0, .slice none 0 0], []⟩ 8 (by kernel_rfl) (by kernel_rfl) (by kernel_rfl) (by kernel_rfl)) ?_
  intro W base args ds gs before hval0 hW hcnd hsz0 _
  have hsz : (DataW.weightsEach Try.prog (Try.f11.params.toList ++ Rows.feudsClassesSpec.plain.varTypes Try.prog) (ds ++ gs)).all (· ≤ reachBytes) = true := hsz0
  have hval : ∀ (j : Nat) t v, Try.f11.params[j]? = some t → args[j]? = some v → Value.okWide Try.prog W .any base t v := hval0
  have hW' := hW
  obtain ⟨p, q, hA0, hV, rfl, hfz, hnd⟩ := hW
  have hA : DataW.TrodAll enc Try.prog W 0 (fun _ => true) true Try.f11.params.toList args.toList ds p := hA0
  rw [Try.params11] at hA hval hsz
  obtain ⟨v0, vs0, d0, ds0, p0, q0, hargs, rfl, rfl, h0, r0⟩ := trodAll_cons hA
  obtain ⟨v1, vs1, d1, ds1, p1, q1, rfl, rfl, rfl, h1, r1⟩ := trodAll_cons r0
  obtain ⟨rfl, rfl, rfl⟩ := trodAll_nil r1
  obtain rfl : args = #[v0, v1] := by cases args; simp_all
  obtain ⟨rfl, rfl⟩ := trodVars_none hV
  obtain ⟨a0, rfl, rfl, rfl, w0⟩ := open_int Try.underlying3 (hval 0 3 v0 rfl rfl) h0
  obtain ⟨a1, len1, cap1, rfl⟩ := okWide_slice Try.underlying22 (hval 1 22 v1 rfl rfl)
  have k1 := h1
  have lt1 : ∀ x ∈ p1, x.block < W.heap.size := by obtain ⟨m, hm⟩ := k1; exact DataW.trod_lt m _ _ _ hm
  obtain ⟨l1, rfl, hc1, hm1, hr1⟩ := open_ties h1
  clear hA0 hval0 hsz0 hsz
  refine (classes_any a0 a1 cap1 l1 W hr1 hc1).mono fun e W' ⟨he, bel⟩ => ?_
  subst he
  exact ⟨_, rfl, _, _, _, [], _, [], hW', trodAll_mk1 (shut_bool Try.underlying4 _), (trodAll_cons_mk (shut_int Try.underlying3 w0) (trodAll_cons_mk (Below.trod laidOut (by kernel_rfl) (of_decide_eq_true (by kernel_rfl)) k1 bel lt1) trodAll_mk0)), rfl, bel.frame _, fun h => by cases h⟩
theorem over : Rows.feudsClassesRow.holds Try.pinned (OpenSpec.ofChange Rows.feudsClassesSpec) :=
  OpenClaim.holds_of_wide 11 Try.f11 rfl rfl rfl rfl rfl rfl rfl ⟨rfl, rfl, rfl, rfl, rfl⟩ rfl rfl rfl rfl rfl (by kernel_rfl) Try.func11 (by kernel_rfl)
    (of_decide_eq_true (by kernel_rfl)) (by unfold Func.isWrapper; first | (rw [if_pos (by decide +kernel)]; kernel_rfl) | (rw [if_neg (by decide +kernel)]; exact ⟨rfl, rfl⟩))
    (fun os started H enc _ => lifted os started H enc)
theorem proved : Rows.FeudsClassesSaid := over
#print axioms proved
end Go.Proofs.Ytaegldcifhgnmaa.feudsClasses
namespace Go.Proofs.Ytaegldcifhgnmaa
/-- The row, under a short name, for the claim. -/
theorem feudsClasses_holds : Rows.FeudsClassesSaid := feudsClasses.proved
end Go.Proofs.Ytaegldcifhgnmaa
