/- The program's best list and the specification's shortest ring are one: the two searches (plain). -/
import Derived.Test.YtaegldcifhgnmaaZFw3
import Derived.Ground.SlsfProg
import Derived.Shelf.SlSortCmp.Whole1
import Derived.Shelf.SlSortCmp.NoneTotal
import Derived.Test.YtaegldcifhgnmaaProg
import Derived.Lib.SliceRun
import Derived.Sort.OwnSortedInts
import Derived.Deep.RegionHeld3
import Derived.Maps.OwnOps
import Derived.Below
import Derived.Deep.Draws
import Derived.Deep.AppendLies
import Derived.Maps.AppendAt
import Derived.OwnWalk
import Derived.Laws.BytesArg
import Derived.Laws.MakeOwn
import Derived.Laws.OwnMore
import Derived.Deep.OwnRows
import Derived.Tactics
import Derived.Lib.ConvBytes
import Derived.Laws.Slices
import Derived.WalkKit
import Derived.KernelRfl
import Derived.RowKit3
import Derived.Deep.LoopGhost
import Derived.Deep.QuietTactic
import Derived.BigQuiet
import Derived.WideLaws
import Derived.Deep.DeepCutAuto
import Derived.Deep.CutBlock
import Derived.Laws.Rows
import Derived.Lib.AppendStr
import Derived.ArgAppend
import Derived.Laws.IdiomCopy
import Derived.OrdersHeld
import Derived.Laws.BitsLemmas
import Derived.RowKit
import Derived.Test.YtaegldcifhgnmaaWWords
import Derived.Test.YtaegldcifhgnmaaWLast
import Derived.Test.YtaegldcifhgnmaaWTab
import Derived.Test.YtaegldcifhgnmaaWRepsOne
import Derived.Test.YtaegldcifhgnmaaWGuard
/- The program's best list and the specification's shortest ring are one: the two searches (plain). -/
namespace Go.Proofs.Ytaegldcifhgnmaa.B
open Go.Proofs.Ytaegldcifhgnmaa.A
open Go.RowKit Go.Proofs.YtaegldcifhgnmaaW.PrintWords Go.Proofs.YtaegldcifhgnmaaW.PrintMore
section
variable {l : List S39}
theorem drop_cons {r : List Int} {k : Nat} (h : k < r.length) : r.drop k = r.getD k 0 :: r.drop (k + 1) := by
  rw [List.drop_eq_getElem_cons h]
  congr 1
  rw [List.getD_eq_getElem?_getD, List.getElem?_eq_getElem h]; rfl
theorem feSum_drop (r : List Int) : ∀ d k, r.length - k = d → k ≤ r.length → feSum l r d k = feL l (r.drop k)
  | 0, k, hd, hk => by
    rw [List.drop_eq_nil_of_le (by omega)]; rfl
  | d + 1, k, hd, hk => by
    rw [drop_cons (by omega), feSum, feL, feSum_drop r d (k + 1) (by omega) (by omega)]; rfl
theorem walkN_WT (r : List Int) (fr : Nat) (hin : ∀ k, k < r.length → inR l (r.getD k 0)) : ∀ d k at_ fe met, r.length - k = d → k ≤ r.length → ((walkN l r fr d k at_ fe met).2 = true ↔ WT l fr at_ met (r.drop k))
  | 0, k, at_, fe, met, hd, hk => by
    rw [List.drop_eq_nil_of_le (by omega), walkN, WT]
    exact decide_eq_true_iff
  | d + 1, k, at_, fe, met, hd, hk => by
    rw [drop_cons (by omega), walkN, WT]
    cases e : otherN (tieA l (r.getD k 0)) at_ with
    | none =>
      dsimp only
      exact ⟨fun h => absurd h Bool.false_ne_true, fun ⟨_, v, h, _⟩ => by cases h⟩
    | some v =>
      dsimp only
      by_cases hb : met.testBit v = true
      · rw [if_pos hb]
        refine ⟨fun h => absurd h Bool.false_ne_true, fun ⟨_, u, h, h2, _⟩ => ?_⟩
        cases h
        rw [hb] at h2; cases h2
      · rw [if_neg hb]
        have ih := walkN_WT r fr hin d (k + 1) v (fe + feA l r k) (met ||| 2 ^ v) (by omega) (by omega)
        rw [ih]
        refine ⟨fun h => ⟨hin k (by omega), v, rfl, by simpa using hb, h⟩, fun ⟨_, u, h, h2, h3⟩ => ?_⟩
        cases h
        exact h3
/-- A ring, one way or the other. -/
def Ringy (l : List S39) (x : List Int) : Prop := ∃ fr : Nat, (fr = (tieA l (x.getD 0 0)).f0.toNat ∨ fr = (tieA l (x.getD 0 0)).f1.toNat) ∧ WT l fr fr 0 x
theorem isRing_iff {x : List Int} (h3 : 3 ≤ x.length) : (isRingR l x).2 = true ↔ Ringy l x := by
  unfold isRingR
  rw [if_neg (by omega)]
  by_cases hin : ∀ k, k < x.length → inR l (x.getD k 0)
  · rw [if_pos hin]
    have w : ∀ fr, (walkF l x fr).2 = true ↔ WT l fr fr 0 x := fun fr => by
      have := walkN_WT x fr hin x.length 0 fr 0 0 (by omega) (Nat.zero_le _)
      rwa [List.drop_zero] at this
    by_cases ha : (walkF l x (tieA l (x.getD 0 0)).f0.toNat).2 = true
    · rw [if_pos ha]
      exact ⟨fun h => ⟨_, Or.inl rfl, (w _).mp h⟩, fun _ => ha⟩
    · rw [if_neg ha]
      by_cases hb : (walkF l x (tieA l (x.getD 0 0)).f1.toNat).2 = true
      · rw [if_pos hb]
        exact ⟨fun h => ⟨_, Or.inr rfl, (w _).mp h⟩, fun _ => hb⟩
      · rw [if_neg hb]
        refine ⟨fun h => absurd h Bool.false_ne_true, fun ⟨fr, hf, hw⟩ => ?_⟩
        rcases hf with e | e
        · rw [e, ← w] at hw; exact absurd hw ha
        · rw [e, ← w] at hw; exact absurd hw hb
  · rw [if_neg hin]
    refine ⟨fun h => absurd h Bool.false_ne_true, fun ⟨fr, _, hw⟩ => ?_⟩
    exact absurd (fun k hk => WT_in x _ _ hw _ (getD_mem 0 hk)) hin
theorem isRing_fe {x : List Int} (h3 : 3 ≤ x.length) (h : (isRingR l x).2 = true) : (isRingR l x).1 = (feL l x : Int) := by
  have w : ∀ fr, (walkF l x fr).2 = true → (walkF l x fr).1 = (feL l x : Int) := fun fr hf => by
    have := walkN_fst l x fr x.length 0 fr 0 0 hf
    rw [Nat.zero_add, feSum_drop x x.length 0 (by omega) (Nat.zero_le _), List.drop_zero] at this
    exact this
  unfold isRingR at h ⊢
  rw [if_neg (by omega)] at h ⊢
  by_cases hin : ∀ k, k < x.length → inR l (x.getD k 0)
  · rw [if_pos hin] at h ⊢
    by_cases ha : (walkF l x (tieA l (x.getD 0 0)).f0.toNat).2 = true
    · rw [if_pos ha]; exact w _ ha
    · rw [if_neg ha] at h ⊢
      by_cases hb : (walkF l x (tieA l (x.getD 0 0)).f1.toNat).2 = true
      · rw [if_pos hb]; exact w _ hb
      · rw [if_neg hb] at h; exact absurd h Bool.false_ne_true
  · rw [if_neg hin] at h; exact absurd h Bool.false_ne_true

/-! ### the specification -/
def okX (l : List S39) (one : Bool) (x : List Int) : Prop := ((isRingR l x).2 && askB one (isRingR l x).1) = true
theorem rg_least (one : Bool) : ∀ d now at_ met, IsLeast (fun x => ∃ js, x = now ++ js ∧ js.length = d ∧ DT l at_ met js ∧ okX l one x) (ringedR l one d now at_ met)
  | 0, now, at_, met => by
    rw [ringedR]
    by_cases h : ((isRingR l now).2 && askB one (isRingR l now).1) = true
    · rw [if_pos h]
      refine ⟨⟨[], by simp, rfl, trivial, h⟩, fun x ⟨js, e, hl, _, _⟩ => ?_⟩
      obtain rfl := List.eq_nil_of_length_eq_zero hl
      rw [e, List.append_nil, cmpL_self]; decide
    · rw [if_neg h]
      rintro x ⟨js, e, hl, _, hx⟩
      obtain rfl := List.eq_nil_of_length_eq_zero hl
      rw [e, List.append_nil] at hx
      exact h hx
  | d + 1, now, at_, met => by
    rw [ringedR]
    have key := least_first (P := fun i x => i < l.length ∧ ∃ v js, x = (now ++ [(i : Int)]) ++ js ∧ js.length = d ∧ otherN (l.getD i z39) at_ = some v ∧ met.testBit v = false ∧ DT l v (met ||| 2 ^ v) js ∧ okX l one x)
      (F := fun i => if i < l.length then (match otherN (l.getD i z39) at_ with
        | none => none
        | some v => if met.testBit v = true then none else ringedR l one d (now ++ [(i : Int)]) v (met ||| 2 ^ v)) else none) (fun i => by
        by_cases hi : i < l.length
        · rw [if_pos hi]
          cases e : otherN (l.getD i z39) at_ with
          | none => rintro x ⟨_, v, js, _, _, h, _⟩; cases h
          | some v =>
            dsimp only
            by_cases hb : met.testBit v = true
            · rw [if_pos hb]
              rintro x ⟨_, u, js, _, _, h, h2, _⟩
              cases h
              rw [hb] at h2; cases h2
            · rw [if_neg hb]
              refine least_iff (rg_least one d (now ++ [(i : Int)]) v (met ||| 2 ^ v)) fun x => ⟨fun ⟨js, h1, h2, h3, h4⟩ => ⟨hi, v, js, h1, h2, rfl, by simpa using hb, h3, h4⟩, fun ⟨_, u, js, h1, h2, h, h5, h3, h4⟩ => ?_⟩
              cases h
              exact ⟨js, h1, h2, h3, h4⟩
        · rw [if_neg hi]
          exact fun x h => hi h.1) (fun i j x y hij ⟨_, v, js, h1, _⟩ ⟨_, u, js', h2, _⟩ => by
        rw [h1, h2, List.append_assoc, List.append_assoc, cmpL_pre]
        exact cmpL_lt (by omega) _ _) l.length
    have hsame : firstN (fun i => if i < l.length then (match otherN (l.getD i z39) at_ with
        | none => none
        | some v => if met.testBit v = true then none else ringedR l one d (now ++ [(i : Int)]) v (met ||| 2 ^ v)) else none) l.length = firstN (fun i => match otherN (l.getD i z39) at_ with
        | none => none
        | some v => if met.testBit v = true then none else ringedR l one d (now ++ [(i : Int)]) v (met ||| 2 ^ v)) l.length := by
      have gen : ∀ (F : Nat → Option (List Int)) m, m ≤ l.length → firstN (fun i => if i < l.length then F i else none) m = firstN F m := by
        intro F m
        induction m with
        | zero => intro _; rfl
        | succ m ih => intro hm; rw [firstN, firstN, ih (by omega), if_pos (by omega)]
      exact gen _ _ (Nat.le_refl _)
    rw [hsame] at key
    refine least_iff key fun x => ⟨?_, ?_⟩
    · rintro ⟨i, hi, _, v, js, h1, h2, h3, h4, h5, h6⟩
      refine ⟨(i : Int) :: js, by rw [h1, List.append_assoc]; rfl, by simp [h2], ⟨⟨by omega, by omega⟩, v, ?_, h4, h5⟩, h6⟩
      unfold tieA
      rw [Int.toNat_natCast]; exact h3
    · rintro ⟨js, h1, h2, h3, h4⟩
      cases js with
      | nil => simp at h2
      | cons j js =>
        obtain ⟨hj, v, h5, h6, h7⟩ := h3
        obtain ⟨i, rfl⟩ := Int.eq_ofNat_of_zero_le hj.1
        have hi : i < l.length := by have := hj.2; omega
        unfold tieA at h5
        rw [Int.toNat_natCast] at h5
        exact ⟨i, hi, hi, v, js, by rw [h1, List.append_assoc]; rfl, by simpa using h2, h5, h6, h7, h4⟩
/-- The rings of a size that are asked for. -/
def RingP (l : List S39) (one : Bool) (k : Nat) (x : List Int) : Prop := x.length = k ∧ Ringy l x ∧ askB one (feL l x) = true
theorem okX_iff {one : Bool} {x : List Int} (h3 : 3 ≤ x.length) : okX l one x ↔ Ringy l x ∧ askB one (feL l x) = true := by
  unfold okX
  rw [Bool.and_eq_true, isRing_iff h3]
  refine and_congr_right fun h => ?_
  rw [isRing_fe h3 ((isRing_iff h3).mpr h)]
theorem sizeR_least (hg : goodT l) (one : Bool) {k : Nat} (h3 : 3 ≤ k) : IsLeast (RingP l one k) (sizeR l one k) := by
  unfold sizeR
  rw [if_pos h3]
  have hst : ∀ i fr : Nat, IsLeast (fun x => ∃ js, x = [(i : Int)] ++ js ∧ js.length = k - 1 ∧ DT l fr (2 ^ fr) js ∧ okX l one x) (startR l one k i fr) := fun i fr => rg_least one (k - 1) [(i : Int)] fr (2 ^ fr)
  have hpair : ∀ i : Nat, IsLeast (fun x => (∃ js, x = [(i : Int)] ++ js ∧ js.length = k - 1 ∧ DT l (l.getD i z39).f0.toNat (2 ^ (l.getD i z39).f0.toNat) js ∧ okX l one x) ∨ ∃ js, x = [(i : Int)] ++ js ∧ js.length = k - 1 ∧ DT l (l.getD i z39).f1.toNat (2 ^ (l.getD i z39).f1.toNat) js ∧ okX l one x) (pairR l one k i) := fun i => least_pick (hst i _) (hst i _)
  refine least_iff (least_first hpair (fun i j x y hij hx hy => ?_) l.length) fun x => ⟨?_, ?_⟩
  · obtain ⟨js, rfl⟩ : ∃ js, x = (i : Int) :: js := by rcases hx with ⟨js, h, _⟩ | ⟨js, h, _⟩ <;> exact ⟨js, h⟩
    obtain ⟨js', rfl⟩ : ∃ js, y = (j : Int) :: js := by rcases hy with ⟨js, h, _⟩ | ⟨js, h, _⟩ <;> exact ⟨js, h⟩
    exact cmpL_lt (by omega) _ _
  · rintro ⟨i, _, h⟩
    rcases h with ⟨js, h1, h2, _, h4⟩ | ⟨js, h1, h2, _, h4⟩
    all_goals
      have hl : x.length = k := by rw [h1, List.length_append, List.length_singleton]; omega
      exact ⟨hl, (okX_iff (by omega)).mp h4⟩
  · rintro ⟨hl, hr, ha⟩
    obtain ⟨fr, hfr, hw⟩ := id hr
    cases x with
    | nil => simp at hl; omega
    | cons j js =>
      obtain ⟨hj, v, h5, h6, h7⟩ := hw
      have gj := tieA_good hg hj
      have hp := other_parts gj.1 gj.2.1 h5
      have hv := hasB_iff.mp hp.2.1
      obtain ⟨i, rfl⟩ := Int.eq_ofNat_of_zero_le hj.1
      have hi : i < l.length := by have := hj.2; omega
      rw [Nat.zero_or] at h7
      have hd := WT_DT js _ _ h7
      have hta : tieA l (i : Int) = l.getD i z39 := by unfold tieA; rw [Int.toNat_natCast]
      rw [hta] at hv gj
      have hok := (okX_iff (one := one) (x := (i : Int) :: js) (by rw [hl]; exact h3)).mpr ⟨hr, ha⟩
      have hjl : js.length = k - 1 := by rw [List.length_cons] at hl; omega
      refine ⟨i, hi, ?_⟩
      rcases hv with e | e
      · left
        have : (l.getD i z39).f0.toNat = v := by omega
        rw [this]
        exact ⟨js, rfl, hjl, hd, hok⟩
      · right
        have : (l.getD i z39).f1.toNat = v := by omega
        rw [this]
        exact ⟨js, rfl, hjl, hd, hok⟩

/-! ### the program -/
theorem toT_other {t : S39} (h0 : 0 ≤ t.f0) (h1 : t.f0 < t.f1) (a v : Nat) : otherN t a = some v ↔ hasB t a = true ∧ v = toT t a := by
  constructor
  · intro h
    have hp := other_parts h0 h1 h
    have ha := hasB_iff.mp hp.1
    have hv := hasB_iff.mp hp.2.1
    refine ⟨hp.1, ?_⟩
    unfold toT
    have := hp.2.2
    omega
  · rintro ⟨ha, rfl⟩
    have ha' := hasB_iff.mp ha
    refine other_has h1 ha (hasB_iff.mpr ?_) ?_ <;> unfold toT <;> omega
theorem onF_iff (hg : goodT l) (fr : Nat) : ∀ d now at_ met fe x g, (x, g) ∈ onF l fr d now at_ met fe ↔ ∃ js, x = now ++ js ∧ js.length = d ∧ PT l fr at_ met js ∧ g = fe + feL l js
  | 0, now, at_, met, fe, x, g => by
    rw [onF]
    constructor
    · intro h
      by_cases e : at_ = fr
      · rw [if_pos e] at h
        have := List.mem_singleton.mp h
        cases this
        exact ⟨[], by simp, rfl, e, rfl⟩
      · rw [if_neg e] at h; exact absurd h (by simp)
    · rintro ⟨js, h1, h2, h3, h4⟩
      obtain rfl := List.eq_nil_of_length_eq_zero h2
      rw [PT] at h3
      rw [if_pos h3, List.mem_singleton, h1, h4, List.append_nil]; rfl
  | d + 1, now, at_, met, fe, x, g => by
    rw [onF, List.mem_flatMap]
    constructor
    · rintro ⟨i, hi, h⟩
      rw [List.mem_range] at hi
      by_cases hgo : goesB (l.getD i z39) fr d at_ met = true
      · rw [if_pos hgo] at h
        obtain ⟨js, h1, h2, h3, h4⟩ := (onF_iff hg fr d _ _ _ _ x g).mp h
        have hin : inR l (i : Int) := ⟨by omega, by omega⟩
        have hta : tieA l (i : Int) = l.getD i z39 := by unfold tieA; rw [Int.toNat_natCast]
        have gi := tieA_good hg hin
        rw [hta] at gi
        unfold goesB at hgo
        rw [Bool.and_eq_true] at hgo
        refine ⟨(i : Int) :: js, by rw [h1, List.append_assoc]; rfl, by simp [h2], ⟨hin, toT (l.getD i z39) at_, ?_, ?_, h3⟩, ?_⟩
        · rw [hta, toT_other gi.1 gi.2.1]; exact ⟨hgo.1, rfl⟩
        · by_cases e : js = []
          · rw [if_pos e]
            have hd : d = 0 := by rw [← h2, e]; rfl
            rw [if_pos hd] at hgo
            exact of_decide_eq_true hgo.2
          · rw [if_neg e]
            have hd : d ≠ 0 := fun hd => e (List.eq_nil_of_length_eq_zero (h2.trans hd))
            rw [if_neg hd] at hgo
            simpa using hgo.2
        · rw [h4, feL, hta, Nat.add_assoc]
      · rw [if_neg hgo] at h; exact absurd h (by simp)
    · rintro ⟨js, h1, h2, h3, h4⟩
      cases js with
      | nil => simp at h2
      | cons j js =>
        obtain ⟨hj, v, h5, h6, h7⟩ := h3
        have gj := tieA_good hg hj
        obtain ⟨i, rfl⟩ := Int.eq_ofNat_of_zero_le hj.1
        have hi : i < l.length := by have := hj.2; omega
        have hta : tieA l (i : Int) = l.getD i z39 := by unfold tieA; rw [Int.toNat_natCast]
        rw [hta] at gj h5
        have ht := (toT_other gj.1 gj.2.1 at_ v).mp h5
        have hjl : js.length = d := by simpa using h2
        refine ⟨i, List.mem_range.mpr hi, ?_⟩
        have hgo : goesB (l.getD i z39) fr d at_ met = true := by
          unfold goesB
          rw [ht.1, Bool.true_and, ← ht.2]
          by_cases e : js = []
          · rw [if_pos e] at h6
            rw [if_pos (by rw [← hjl, e]; rfl)]
            exact decide_eq_true h6
          · rw [if_neg e] at h6
            rw [if_neg (fun hd => e (List.eq_nil_of_length_eq_zero (hjl.trans hd))), h6]; rfl
        rw [if_pos hgo, onF_iff hg fr d, ← ht.2]
        refine ⟨js, by rw [h1, List.append_assoc]; rfl, hjl, h7, ?_⟩
        rw [h4, feL, hta, Nat.add_assoc]
theorem fromF_iff (hg : goodT l) {i d fr : Nat} (hi : i < l.length) (hf : fr = (l.getD i z39).f0.toNat ∨ fr = (l.getD i z39).f1.toNat) (x : List Int) (g : Nat) : (x, g) ∈ fromF l d i fr ↔ ∃ js, x = (i : Int) :: js ∧ js.length = d ∧ WT l fr fr 0 x ∧ g = feL l x := by
  have hin : inR l (i : Int) := ⟨by omega, by omega⟩
  have hta : tieA l (i : Int) = l.getD i z39 := by unfold tieA; rw [Int.toNat_natCast]
  have gi := tieA_good hg hin
  rw [hta] at gi
  have hh : hasB (l.getD i z39) fr = true := hasB_iff.mpr (by omega)
  have ho := (toT_other gi.1 gi.2.1 fr _).mpr ⟨hh, rfl⟩
  have hne := (other_parts gi.1 gi.2.1 ho).2.2
  have hm : 2 ^ (l.getD i z39).f0.toNat ||| 2 ^ (l.getD i z39).f1.toNat = 2 ^ toT (l.getD i z39) fr ||| 2 ^ fr := by
    rcases hf with e | e
    · have : (l.getD i z39).f1.toNat = toT (l.getD i z39) fr := by unfold toT; omega
      rw [this, ← e, Nat.or_comm]
    · have : (l.getD i z39).f0.toNat = toT (l.getD i z39) fr := by unfold toT; omega
      rw [this, ← e]
  unfold fromF
  rw [hm, onF_iff hg]
  have hz : (2 ^ toT (l.getD i z39) fr).testBit fr = false := by
    rw [tb_two, beq_eq_false_iff_ne]; exact hne
  refine exists_congr fun js => ?_
  constructor
  · rintro ⟨h1, h2, h3, h4⟩
    refine ⟨h1, h2, ?_, ?_⟩
    · rw [h1]
      show WT l fr fr 0 ((i : Int) :: js)
      refine ⟨hin, _, by rw [hta]; exact ho, Nat.zero_testBit _, ?_⟩
      rw [Nat.zero_or]
      exact (WT_PT js _ _ hz).mpr h3
    · rw [h1, h4]
      show _ = feL l ((i : Int) :: js)
      rw [feL, hta]
  · rintro ⟨h1, h2, h3, h4⟩
    rw [h1] at h3
    obtain ⟨_, v, h5, _, h7⟩ := h3
    rw [hta, ho] at h5
    cases h5
    rw [Nat.zero_or] at h7
    refine ⟨h1, h2, (WT_PT js _ _ hz).mp h7, ?_⟩
    rw [h4, h1, feL, hta]
theorem ringsF_iff (hg : goodT l) (d : Nat) (x : List Int) (g : Nat) : (x, g) ∈ ringsF l d ↔ x.length = d + 1 ∧ Ringy l x ∧ g = feL l x := by
  unfold ringsF ringsK
  rw [List.mem_flatMap]
  constructor
  · rintro ⟨i, hi, h⟩
    rw [List.mem_range] at hi
    have hta : tieA l (i : Int) = l.getD i z39 := by unfold tieA; rw [Int.toNat_natCast]
    rcases List.mem_append.mp h with h | h
    · obtain ⟨js, h1, h2, h3, h4⟩ := (fromF_iff hg hi (Or.inl rfl) x g).mp h
      refine ⟨by rw [h1, List.length_cons, h2], ⟨_, Or.inl ?_, h3⟩, h4⟩
      rw [h1]; show _ = (tieA l (i : Int)).f0.toNat; rw [hta]
    · obtain ⟨js, h1, h2, h3, h4⟩ := (fromF_iff hg hi (Or.inr rfl) x g).mp h
      refine ⟨by rw [h1, List.length_cons, h2], ⟨_, Or.inr ?_, h3⟩, h4⟩
      rw [h1]; show _ = (tieA l (i : Int)).f1.toNat; rw [hta]
  · rintro ⟨hl, ⟨fr, hf, hw⟩, h4⟩
    cases x with
    | nil => simp at hl
    | cons j js =>
      have hj := hw.1
      obtain ⟨i, rfl⟩ := Int.eq_ofNat_of_zero_le hj.1
      have hi : i < l.length := by have := hj.2; omega
      have hta : tieA l (i : Int) = l.getD i z39 := by unfold tieA; rw [Int.toNat_natCast]
      have hf' : fr = (l.getD i z39).f0.toNat ∨ fr = (l.getD i z39).f1.toNat := by rw [← hta]; exact hf
      have hjl : js.length = d := by simpa using hl
      refine ⟨i, List.mem_range.mpr hi, List.mem_append.mpr ?_⟩
      rcases hf' with e | e
      · left
        rw [← e]
        exact (fromF_iff hg hi (Or.inl e) _ g).mpr ⟨js, rfl, hjl, hw, h4⟩
      · right
        rw [← e]
        exact (fromF_iff hg hi (Or.inr e) _ g).mpr ⟨js, rfl, hjl, hw, h4⟩
theorem foldB_least (p : Nat → Bool) : ∀ (V : List (List Int × Nat)) (s : Option (List Int)) (P : List Int → Prop), IsLeast P s → IsLeast (fun x => P x ∨ ∃ g, (x, g) ∈ V ∧ p g = true) (foldV (stepB p) s V)
  | [], s, P, h => least_iff h fun x => ⟨Or.inl, fun h => h.elim id fun ⟨_, h, _⟩ => absurd h (by simp)⟩
  | (now, fe) :: V, s, P, h => by
    have h1 : IsLeast (fun x => P x ∨ (x = now ∧ p fe = true)) (stepB p s now fe) := by
      unfold stepB
      by_cases hp : p fe = true
      · rw [hp, Bool.true_and]
        cases s with
        | none =>
          rw [if_pos rfl]
          exact ⟨Or.inr ⟨rfl, rfl⟩, fun x hx => hx.elim (fun hx => absurd hx (h x)) fun hx => by rw [hx.1, cmpL_self]; decide⟩
        | some b =>
          dsimp only
          by_cases hb : cmpL now b < 0
          · rw [if_pos (decide_eq_true hb)]
            exact ⟨Or.inr ⟨rfl, rfl⟩, fun x hx => hx.elim (fun hx => cmpL_trans _ _ _ (by omega) (h.2 x hx)) fun hx => by rw [hx.1, cmpL_self]; decide⟩
          · rw [if_neg (by simpa using hb)]
            have := cmpL_swap now b
            exact ⟨Or.inl h.1, fun x hx => hx.elim (h.2 x) fun hx => by rw [hx.1]; omega⟩
      · have hp' : p fe = false := by simpa using hp
        rw [hp', Bool.false_and, if_neg Bool.false_ne_true]
        exact least_iff h fun x => ⟨Or.inl, fun hx => hx.elim id fun hx => absurd hx.2 Bool.false_ne_true⟩
    have h2 := foldB_least p V _ _ h1
    refine least_iff h2 fun x => ⟨?_, ?_⟩
    · rintro ((h | ⟨rfl, h⟩) | ⟨g, h, hg⟩)
      · exact Or.inl h
      · exact Or.inr ⟨fe, List.mem_cons_self, h⟩
      · exact Or.inr ⟨g, List.mem_cons_of_mem _ h, hg⟩
    · rintro (h | ⟨g, h, hg⟩)
      · exact Or.inl (Or.inl h)
      · rcases List.mem_cons.mp h with e | e
        · cases e; exact Or.inl (Or.inr ⟨rfl, hg⟩)
        · exact Or.inr ⟨g, e, hg⟩
theorem bestN_least (hg : goodT l) (p : Nat → Bool) (one : Bool) (hp : ∀ g : Nat, p g = askB one (g : Int)) {k : Nat} (h3 : 3 ≤ k) : IsLeast (RingP l one k) (bestN p l k) := by
  unfold bestN
  refine least_iff (foldB_least p (ringsF l (k - 1)) none (fun _ => False) (fun _ h => h)) fun x => ⟨?_, ?_⟩
  · rintro (h | ⟨g, h, hg'⟩)
    · exact h.elim
    · obtain ⟨h1, h2, h4⟩ := (ringsF_iff hg _ x g).mp h
      refine ⟨by omega, h2, ?_⟩
      rw [← hp, ← h4]; exact hg'
  · rintro ⟨h1, h2, h4⟩
    exact Or.inr ⟨feL l x, (ringsF_iff hg _ x _).mpr ⟨by omega, h2, rfl⟩, by rw [hp]; exact h4⟩
theorem firstN_congr {α : Type} {F G : Nat → Option α} (h : ∀ i, F i = G i) (m : Nat) : firstN F m = firstN G m := by
  rw [show F = G from funext h]
theorem find_short (hg : goodT l) (p : Nat → Bool) (one : Bool) (hp : ∀ g : Nat, p g = askB one (g : Int)) (n : Nat) : findF p l n = shortR l one n := by
  unfold findF shortR
  refine firstN_congr (fun k => ?_) _
  unfold bestA
  by_cases h : 3 ≤ k
  · rw [if_pos h]
    exact least_one (bestN_least hg p one hp h) (sizeR_least hg one h) (fun x => Iff.rfl)
  · rw [if_neg h]; unfold sizeR; rw [if_neg h]
theorem ask_odd (g : Nat) : oddB g = askB false (g : Int) := by
  unfold oddB askB
  rw [if_neg Bool.false_ne_true, Int.tmod_eq_emod_of_nonneg (Int.natCast_nonneg _)]
  by_cases h : g % 2 = 1
  · rw [beq_iff_eq.mpr h, beq_iff_eq.mpr (by omega)]
  · rw [beq_eq_false_iff_ne.mpr h, beq_eq_false_iff_ne.mpr (by omega)]
end
end Go.Proofs.Ytaegldcifhgnmaa.B

/- Apart: the first lists of the sets of ties (plain). -/
namespace Go.Proofs.Ytaegldcifhgnmaa.B
open Go.Proofs.Ytaegldcifhgnmaa.A
open Go.RowKit Go.Proofs.YtaegldcifhgnmaaW.PrintWords Go.Proofs.YtaegldcifhgnmaaW.PrintMore
/-- The first lists when the rings with fewer ties than a number have been gone through. -/
def firstA (l : List S39) : Nat → Nat → Option (List Int)
  | 0 => fun _ => none
  | k + 1 => if 3 ≤ k then foldV stepA (firstA l k) (ringsF l (k - 1)) else firstA l k
theorem firstA_low (l : List S39) : ∀ k, k ≤ 3 → firstA l k = fun _ => none
  | 0, _ => rfl
  | k + 1, h => by rw [firstA, if_neg (by omega), firstA_low l k (by omega)]
theorem firstA_step (l : List S39) {k : Nat} (h : 3 ≤ k) : firstA l (k + 1) = foldV stepA (firstA l k) (ringsF l (k - 1)) := by rw [firstA, if_pos h]

theorem stepA_at (f : Nat → Option (List Int)) (now : List Int) (fe k : Nat) : stepA f now fe k = if setI now = k then stepB oddB (f k) now fe else f k := by
  unfold stepA stepB
  by_cases hk : setI now = k
  · subst hk
    rw [if_pos rfl]
    cases hf : f (setI now) with
    | none =>
      dsimp only
      by_cases hc : (oddB fe && true) = true
      · rw [if_pos hc, if_pos hc, if_pos rfl]
      · rw [if_neg hc, if_neg hc]; exact hf
    | some b =>
      dsimp only
      by_cases hc : (oddB fe && decide (cmpL now b < 0)) = true
      · rw [if_pos hc, if_pos hc, if_pos rfl]
      · rw [if_neg hc, if_neg hc]; exact hf
  · rw [if_neg hk]
    generalize (oddB fe && _) = c
    cases c
    · rfl
    · rw [if_pos rfl, if_neg (fun e => hk e.symm)]
theorem foldA_at : ∀ (V : List (List Int × Nat)) (f : Nat → Option (List Int)) (k : Nat), foldV stepA f V k = foldV (stepB oddB) (f k) (V.filter fun x => setI x.1 == k)
  | [], _, _ => rfl
  | (now, fe) :: V, f, k => by
    have h1 := foldA_at V (stepA f now fe) k
    rw [stepA_at] at h1
    rw [show foldV stepA f ((now, fe) :: V) k = foldV stepA (stepA f now fe) V k from rfl, h1]
    by_cases hk : setI now = k
    · rw [if_pos hk, List.filter_cons_of_pos (by simpa using hk)]; rfl
    · rw [if_neg hk, List.filter_cons_of_neg (by simpa using hk)]

variable {l : List S39}
/-- An odd ring. -/
def OddRing (l : List S39) (x : List Int) : Prop := 3 ≤ x.length ∧ Ringy l x ∧ oddB (feL l x) = true
theorem firstA_least (hg : goodT l) : ∀ m k, IsLeast (fun x => OddRing l x ∧ x.length < m ∧ setI x = k) (firstA l m k)
  | 0, _ => fun x h => Nat.not_lt_zero _ h.2.1
  | m + 1, k => by
    have ih := firstA_least hg m k
    by_cases h3 : 3 ≤ m
    · rw [firstA_step l h3, foldA_at]
      refine least_iff (foldB_least oddB _ _ _ ih) fun x => ⟨?_, ?_⟩
      · rintro (⟨h, h1, h2⟩ | ⟨g, h, hodd⟩)
        · exact ⟨h, by omega, h2⟩
        · rw [List.mem_filter] at h
          obtain ⟨h1, h2, h4⟩ := (ringsF_iff hg _ x g).mp h.1
          exact ⟨⟨by omega, h2, by rw [← h4]; exact hodd⟩, by omega, by simpa using h.2⟩
      · rintro ⟨h, h1, h2⟩
        by_cases hm : x.length < m
        · exact Or.inl ⟨h, hm, h2⟩
        · exact Or.inr ⟨feL l x, List.mem_filter.mpr ⟨(ringsF_iff hg _ x _).mpr ⟨by omega, h.2.1, rfl⟩, by simpa using h2⟩, h.2.2⟩
    · rw [firstA, if_neg h3]
      exact least_iff ih fun x => ⟨fun h => ⟨h.1, by omega, h.2.2⟩, fun h => ⟨h.1, by have := h.1.1; omega, h.2.2⟩⟩
theorem ringy_in {x : List Int} (h : Ringy l x) : ∀ j ∈ x, inR l j := by
  obtain ⟨fr, _, hw⟩ := h
  exact WT_in x _ _ hw
theorem firstA_mem (hg : goodT l) {m k : Nat} {b : List Int} (h : firstA l m k = some b) : OddRing l b ∧ b.length < m ∧ setI b = k := by
  have := firstA_least hg m k
  rw [h] at this
  exact this.1
theorem firstA_small (hg : goodT l) {m k : Nat} (h : firstA l m k ≠ none) : k < 2 ^ l.length := by
  obtain ⟨b, hb⟩ := Option.ne_none_iff_exists'.mp h
  have h1 := firstA_mem hg hb
  rw [← h1.2.2]
  exact setI_lt fun x hx => by have := ringy_in h1.1.2.1 x hx; unfold inR at this; omega
theorem firstA_bd (hg : goodT l) {m k : Nat} {b : List Int} (h : firstA l m k = some b) : ∀ i ∈ b, 0 ≤ i ∧ i < (l.length : Int) := fun i hi => by
  have := ringy_in (firstA_mem hg h).1.2.1 i hi; unfold inR at this; omega
end Go.Proofs.Ytaegldcifhgnmaa.B

/- The library's contracts of slices.SortFunc at this program's numbers (laid by the kit's lay-shelf and lay-plain). -/
namespace Go.Proofs
open Go.Shelf
def Try.laysSlF6_f69_ren : Go.Shelf.Ren := ⟨fun | 6 => 69 | 15 => 85 | 14 => 84 | 28 => 99 | 29 => 100 | 20 => 91 | 21 => 92 | 22 => 93 | 23 => 94 | 24 => 95 | 25 => 96 | 26 => 97 | 27 => 98 | 46 => 111 | 47 => 112 | 48 => 113 | 49 => 114 | 50 => 115 | 57 => 119 | n => n, fun | 22 => 53 | 24 => 28 | 25 => 79 | 3 => 3 | 39 => 99 | 0 => 0 | 53 => 111 | 55 => 113 | 4 => 4 | 46 => 105 | 45 => 104 | 50 => 73 | 5 => 5 | 9 => 9 | 66 => 121 | 70 => 125 | 76 => 129 | 77 => 130 | n => n, fun | n => n⟩
theorem Try.laysSlF6_f69 : Go.Proofs.SlLaysF.n6 Try.prog Try.laysSlF6_f69_ren := {
  mixed := by kernel_rfl
  f6 := ⟨Try.f69.name, by decide, Try.func69.trans (congrArg some (by kernel_rfl))⟩
  f14 := ⟨Try.f84.name, by decide, Try.func84.trans (congrArg some (by kernel_rfl))⟩
  f15 := Try.func85.trans (congrArg some (by kernel_rfl))
  f20 := ⟨Try.f91.name, by decide, Try.func91.trans (congrArg some (by kernel_rfl))⟩
  f21 := ⟨Try.f92.name, by decide, Try.func92.trans (congrArg some (by kernel_rfl))⟩
  f22 := ⟨Try.f93.name, by decide, Try.func93.trans (congrArg some (by kernel_rfl))⟩
  f23 := ⟨Try.f94.name, by decide, Try.func94.trans (congrArg some (by kernel_rfl))⟩
  f24 := ⟨Try.f95.name, by decide, Try.func95.trans (congrArg some (by kernel_rfl))⟩
  f25 := ⟨Try.f96.name, by decide, Try.func96.trans (congrArg some (by kernel_rfl))⟩
  f26 := ⟨Try.f97.name, by decide, Try.func97.trans (congrArg some (by kernel_rfl))⟩
  f27 := ⟨Try.f98.name, by decide, Try.func98.trans (congrArg some (by kernel_rfl))⟩
  f28 := Try.func99.trans (congrArg some (by kernel_rfl))
  f29 := Try.func100.trans (congrArg some (by kernel_rfl))
  f46 := ⟨Try.f111.name, by decide, Try.func111.trans (congrArg some (by kernel_rfl))⟩
  f47 := Try.func112.trans (congrArg some (by kernel_rfl))
  f48 := Try.func113.trans (congrArg some (by kernel_rfl))
  f49 := ⟨Try.f114.name, by decide, Try.func114.trans (congrArg some (by kernel_rfl))⟩
  f50 := ⟨Try.f115.name, by decide, Try.func115.trans (congrArg some (by kernel_rfl))⟩
  f57 := ⟨Try.f119.name, by decide, Try.func119.trans (congrArg some (by kernel_rfl))⟩
  t0 := Try.underlying0
  a0 := Try.isAgg0
  z0 := Try.sizeOf0
  v0 := Try.zeroValue0
  t3 := Try.underlying3
  a3 := Try.isAgg3
  z3 := Try.sizeOf3
  v3 := Try.zeroValue3
  t4 := Try.underlying4
  a4 := Try.isAgg4
  z4 := Try.sizeOf4
  v4 := Try.zeroValue4
  t5 := Try.underlying5
  a5 := Try.isAgg5
  z5 := Try.sizeOf5
  v5 := Try.zeroValue5
  t9 := Try.underlying9
  a9 := Try.isAgg9
  z9 := Try.sizeOf9
  v9 := Try.zeroValue9
  t22 := Try.underlying53
  a22 := Try.isAgg53
  z22 := Try.sizeOf53
  v22 := Try.zeroValue53
  a24 := Try.isAgg28
  z24 := Try.sizeOf28
  t25 := Try.underlying79
  a25 := Try.isAgg79
  z25 := Try.sizeOf79
  v25 := Try.zeroValue79
  t39 := Try.underlying99
  a39 := Try.isAgg99
  z39 := Try.sizeOf99
  v39 := Try.zeroValue99
  t45 := Try.underlying104
  a45 := Try.isAgg104
  z45 := Try.sizeOf104
  v45 := Try.zeroValue104
  t46 := Try.underlying105
  a46 := Try.isAgg105
  z46 := Try.sizeOf105
  v46 := Try.zeroValue105
  t50 := Try.underlying73
  a50 := Try.isAgg73
  z50 := Try.sizeOf73
  v50 := Try.zeroValue73
  t53 := Try.underlying111
  a53 := Try.isAgg111
  z53 := Try.sizeOf111
  v53 := Try.zeroValue111
  t55 := Try.underlying113
  a55 := Try.isAgg113
  z55 := Try.sizeOf113
  v55 := Try.zeroValue113
  t66 := Try.underlying121
  a66 := Try.isAgg121
  z66 := Try.sizeOf121
  v66 := Try.zeroValue121
  t70 := Try.underlying125
  a70 := Try.isAgg125
  z70 := Try.sizeOf125
  v70 := Try.zeroValue125
  t76 := Try.underlying129
  a76 := Try.isAgg129
  z76 := Try.sizeOf129
  v76 := Try.zeroValue129
  t77 := Try.underlying130
  a77 := Try.isAgg130
  z77 := Try.sizeOf130
  v77 := Try.zeroValue130 }
open Go.RowKit Go.Lib Go.Sort in
/-- **slices.SortFunc, IN THE DOCUMENTATION's OWN TERMS: A PERMUTATION OF WHAT THE ROW HELD, SORTED BY 'cmp(a, b) < 0'.** Which of two equals comes first is left open ("The sort is not guaranteed to be stable"). (LAID AT THE INSTANCE 'slices.SortFunc[[][]int,[]int]': no walk: one application.) -/
theorem Try.slices_SortFunc {α : Type} [Inhabited α] (enc : α → Value) (h1 : OneCell enc) (cf : α → α → Int) (hO : SWO (ltOf cf)) (g : Nat) (cb : Array Value) (blk off cap : Nat) (d : Array α) (w : World) (eg : ∀ args w, (callFunc g args).run Try.prog w = .ok (.enter g args) w) (hcmp : CmpLays1 Try.prog g cb enc cf blk off d.size w) (hH : Holds enc w blk off d) (hblk : blk < w.heap.size) (hsz : d.size < 4611686018427387904) :
    Calls Try.prog 69 #[.slice (some ⟨blk, off, none⟩) d.size cap, .func (.func g) #[] cb] w fun e w' =>
      e = .returned (.tuple #[]) ∧ ∃ d' n os, PermIn 0 d.size d d' ∧ SortedIn (ltOf cf) 0 d.size d' ∧ w' = sortWorld enc w blk off n d' os := Any.slices_SortFunc Try.laysSlF6_f69 enc h1 cf hO g cb blk off cap d w eg hcmp hH hblk hsz
def Try.laysSlF06_f69_ren : Go.Shelf.Ren := ⟨fun | 6 => 69 | 15 => 85 | 14 => 84 | 28 => 99 | 29 => 100 | 20 => 91 | 21 => 92 | 22 => 93 | 23 => 94 | 24 => 95 | 25 => 96 | 26 => 97 | 27 => 98 | 46 => 111 | 47 => 112 | 48 => 113 | 49 => 114 | 50 => 115 | 57 => 119 | n => n, fun | 22 => 53 | 24 => 28 | 25 => 79 | 3 => 3 | 39 => 99 | 0 => 0 | 53 => 111 | 55 => 113 | 4 => 4 | 46 => 105 | 45 => 104 | 50 => 73 | 5 => 5 | 9 => 9 | 66 => 121 | 70 => 125 | 76 => 129 | 77 => 130 | n => n, fun | n => n⟩
theorem Try.laysSlF06_f69 : Go.Proofs.SlLaysF0.n6 Try.prog Try.laysSlF06_f69_ren := {
  mixed := by kernel_rfl
  f6 := ⟨Try.f69.name, by decide, Try.func69.trans (congrArg some (by kernel_rfl))⟩
  f14 := ⟨Try.f84.name, by decide, Try.func84.trans (congrArg some (by kernel_rfl))⟩
  f15 := Try.func85.trans (congrArg some (by kernel_rfl))
  f20 := ⟨Try.f91.name, by decide, Try.func91.trans (congrArg some (by kernel_rfl))⟩
  f21 := ⟨Try.f92.name, by decide, Try.func92.trans (congrArg some (by kernel_rfl))⟩
  f22 := ⟨Try.f93.name, by decide, Try.func93.trans (congrArg some (by kernel_rfl))⟩
  f23 := ⟨Try.f94.name, by decide, Try.func94.trans (congrArg some (by kernel_rfl))⟩
  f24 := ⟨Try.f95.name, by decide, Try.func95.trans (congrArg some (by kernel_rfl))⟩
  f25 := ⟨Try.f96.name, by decide, Try.func96.trans (congrArg some (by kernel_rfl))⟩
  f26 := ⟨Try.f97.name, by decide, Try.func97.trans (congrArg some (by kernel_rfl))⟩
  f27 := ⟨Try.f98.name, by decide, Try.func98.trans (congrArg some (by kernel_rfl))⟩
  f28 := Try.func99.trans (congrArg some (by kernel_rfl))
  f29 := Try.func100.trans (congrArg some (by kernel_rfl))
  f46 := ⟨Try.f111.name, by decide, Try.func111.trans (congrArg some (by kernel_rfl))⟩
  f47 := Try.func112.trans (congrArg some (by kernel_rfl))
  f48 := Try.func113.trans (congrArg some (by kernel_rfl))
  f49 := ⟨Try.f114.name, by decide, Try.func114.trans (congrArg some (by kernel_rfl))⟩
  f50 := ⟨Try.f115.name, by decide, Try.func115.trans (congrArg some (by kernel_rfl))⟩
  f57 := ⟨Try.f119.name, by decide, Try.func119.trans (congrArg some (by kernel_rfl))⟩
  t0 := Try.underlying0
  a0 := Try.isAgg0
  z0 := Try.sizeOf0
  v0 := Try.zeroValue0
  t3 := Try.underlying3
  a3 := Try.isAgg3
  z3 := Try.sizeOf3
  v3 := Try.zeroValue3
  t4 := Try.underlying4
  a4 := Try.isAgg4
  z4 := Try.sizeOf4
  v4 := Try.zeroValue4
  t5 := Try.underlying5
  a5 := Try.isAgg5
  z5 := Try.sizeOf5
  v5 := Try.zeroValue5
  t9 := Try.underlying9
  a9 := Try.isAgg9
  z9 := Try.sizeOf9
  v9 := Try.zeroValue9
  t22 := Try.underlying53
  a22 := Try.isAgg53
  z22 := Try.sizeOf53
  v22 := Try.zeroValue53
  t25 := Try.underlying79
  a25 := Try.isAgg79
  z25 := Try.sizeOf79
  v25 := Try.zeroValue79
  t39 := Try.underlying99
  a39 := Try.isAgg99
  z39 := Try.sizeOf99
  v39 := Try.zeroValue99
  t45 := Try.underlying104
  a45 := Try.isAgg104
  z45 := Try.sizeOf104
  v45 := Try.zeroValue104
  t46 := Try.underlying105
  a46 := Try.isAgg105
  z46 := Try.sizeOf105
  v46 := Try.zeroValue105
  t50 := Try.underlying73
  a50 := Try.isAgg73
  z50 := Try.sizeOf73
  v50 := Try.zeroValue73
  t53 := Try.underlying111
  a53 := Try.isAgg111
  z53 := Try.sizeOf111
  v53 := Try.zeroValue111
  t55 := Try.underlying113
  a55 := Try.isAgg113
  z55 := Try.sizeOf113
  v55 := Try.zeroValue113
  t66 := Try.underlying121
  a66 := Try.isAgg121
  z66 := Try.sizeOf121
  v66 := Try.zeroValue121
  t70 := Try.underlying125
  a70 := Try.isAgg125
  z70 := Try.sizeOf125
  v70 := Try.zeroValue125
  t76 := Try.underlying129
  a76 := Try.isAgg129
  z76 := Try.sizeOf129
  v76 := Try.zeroValue129
  t77 := Try.underlying130
  a77 := Try.isAgg130
  z77 := Try.sizeOf130
  v77 := Try.zeroValue130 }
open Go.RowKit Go.Lib Go.Sort in
/-- **slices.SortFunc AT NO ELEMENT, A nil SLICE TOO: nothing turns.** (LAID AT THE INSTANCE 'slices.SortFunc[[][]int,[]int]': no walk: one application.) -/
theorem Try.slices_SortFunc_none {α : Type} [Inhabited α] (p : Option Addr) (cap : Nat) (fv : Value) (w : World) :
    Calls Try.prog 69 #[.slice p 0 cap, fv] w fun e w' => e = .returned (.tuple #[]) ∧ w' = w := AnyF.slices_SortFunc_none Try.laysSlF06_f69 p cap fv w
end Go.Proofs

/- Apart: rows of rows: sorted, copied. -/
namespace Go.Proofs.Ytaegldcifhgnmaa.A
open Go.RowKit Go.Proofs.YtaegldcifhgnmaaW.PrintWords Go.Proofs.YtaegldcifhgnmaaW.PrintMore Go.Sort Go.Lib
open Go.Proofs.Ytaegldcifhgnmaa.B (cmpL_self cmpL_swap cmpL_eq cmpL_trans)
/-- A row of numbers: the block and the room of its slice, and what it holds. -/
abbrev RowT := (Nat × Nat) × List Int
def encR (x : RowT) : Value := .slice (some ⟨x.1.1, 0, none⟩) x.2.length x.1.2
theorem encR_one (x : RowT) : (encR x).oneCell' = true := rfl
def kR : Kd RowT := Kd.scalar encR encR_one
/-- The row reads as it says. -/
def RowOk (W : World) (x : RowT) : Prop := x.2 ≠ [] ∧ x.2.length ≤ 1000 ∧ x.2.length ≤ x.1.2 ∧ RowAt W x.1.1 x.2
theorem RowOk.lt {W : World} {x : RowT} (h : RowOk W x) : x.1.1 < W.heap.size := h.2.2.2.lt
theorem RowOk.move {W W' : World} {x : RowT} (h : RowOk W x) (hm : W'.heap[x.1.1]? = W.heap[x.1.1]?) : RowOk W' x := ⟨h.1, h.2.1, h.2.2.1, h.2.2.2.move hm⟩
theorem RowOk.below {W W' : World} {x : RowT} (h : RowOk W x) (hb : Below W.heap.size W W') : RowOk W' x := h.move (hb.block _ h.lt)
theorem RowOk.ne {W : World} {x : RowT} (h : RowOk W x) {g e : Nat} {cs : Array Value} (hb : W.heap[g]? = some (.cells cs e (0, 0))) (he : e ≠ 3) : x.1.1 ≠ g := by
  intro e1
  obtain ⟨cs', h'⟩ := h.2.2.2.1
  rw [e1, hb] at h'
  cases h'
  exact he rfl
theorem cells_of_R {α : Type} {enc : α → Value} {h1 : ∀ x, (enc x).oneCell' = true} {e : Nat} {W : World} {base g n cap : Nat} {ok : Nat → Prop} {xs : List α} (h : (Kd.scalar enc h1).R e W base ok (.slice (some ⟨g, 0, none⟩) n cap) xs) :
    ∃ cur : Array Value, W.heap[g]? = some (.cells cur e (0, 0)) ∧ base ≤ g ∧ xs.length ≤ cap ∧ cap ≤ maxLen ∧ cur.size = cap ∧ cur.toList.take xs.length = xs.map enc := by
  rcases (Kd.own_of_R h).2 with ⟨h0, _⟩ | ⟨g', cap', cur, hv, hg, hb, h1, h2, h3, h4⟩
  · cases h0
  · cases hv
    exact ⟨cur, hb, hg, h1, h2, by simpa using h3, by simpa [encs] using h4⟩

/-! ### a row's cells put anew -/
section
variable {α : Type} [Inhabited α] {enc : α → Value}
theorem holds_of_row {w : World} {g : Nat} {cur : Array Value} {e : TypeId} {ss : List α} (hb : w.heap[g]? = some (.cells cur e (0, 0))) (ht : cur.toList.take ss.length = ss.map enc) : Holds enc w g 0 ss.toArray := by
  intro j hj
  have hj' : j < ss.length := by simpa using hj
  refine ⟨?_, by simp [World.frozen?, hb]⟩
  have h1 : (cur.toList.take ss.length)[j]? = (ss.map enc)[j]? := by rw [ht]
  rw [List.getElem?_take_of_lt hj'] at h1
  simp only [World.cell?, hb, Nat.zero_add]
  simp only [Option.isSome_none, Bool.false_eq_true, if_false]
  rw [← Array.getElem?_toList, h1]
  simp [hj']
theorem heap_sortedR {w : World} {g n : Nat} {os : Array Obj} {cur : Array Value} {e : TypeId} {fr : Nat × Nat} (d : Array α) (hb : w.heap[g]? = some (.cells cur e fr)) :
    (sortWorld enc w g 0 n d os).heap[g]? = some (.cells (putCells enc 0 d cur) e fr) := by
  have hg : g < w.heap.size := (Array.getElem?_eq_some_iff.1 hb).1
  unfold sortWorld
  rw [heap_grow_old _ _ (by simpa using hg)]
  simp [putRow, mapBlock, Sort.ahead, Array.getElem?_modify, hb, onCells]
theorem grownBy_sortedR {w : World} {g n : Nat} {os : Array Obj} (d : Array α) : w.grownBy (sortWorld enc w g 0 n d os) (some g) := by
  unfold sortWorld
  refine ⟨rfl, rfl, rfl, by simp, fun k hk hne => ?_⟩
  rw [heap_grow_old _ _ (by simpa using hk)]
  have : g ≠ k := fun e => hne (by rw [e])
  simp [putRow, mapBlock, Sort.ahead, Array.getElem?_modify, this]
theorem take_putCellsR (cur : Array Value) (ts : List α) (h : ts.length ≤ cur.size) : (putCells enc 0 ts.toArray cur).toList.take ts.length = ts.map enc := by
  apply List.ext_getElem?
  intro j
  by_cases hj : j < ts.length
  · rw [List.getElem?_take_of_lt hj, Array.getElem?_toList]
    simp [putCells, hj, show j < cur.size by omega]
  · rw [List.getElem?_take_eq_none (by omega), List.getElem?_eq_none (by simp; omega)]
end
/-! ### the order of lists -/
theorem cmp_swo {α : Type} (key : α → List Int) : SWO (ltOf fun x y : α => cmpL (key x) (key y)) where
  irrefl x := decide_eq_false (by have := cmpL_self (key x); show ¬ cmpL (key x) (key x) < 0; omega)
  trans x y z h1 h2 := by
    unfold ltOf at *
    dsimp only at *
    rw [decide_eq_true_iff] at *
    have h3 := cmpL_trans (key x) (key y) (key z) (by omega) (by omega)
    by_cases e : cmpL (key x) (key z) = 0
    · have h4 := cmpL_eq _ _ e
      rw [h4] at h1
      have := cmpL_swap (key y) (key z)
      omega
    · omega
  ntrans x y z h1 h2 := by
    unfold ltOf at *
    dsimp only at *
    rw [decide_eq_false_iff_not] at *
    have s1 := cmpL_swap (key x) (key y)
    have s2 := cmpL_swap (key y) (key z)
    have s3 := cmpL_swap (key x) (key z)
    have := cmpL_trans (key z) (key y) (key x) (by omega) (by omega)
    omega

theorem enters67 : ∀ args w, (callFunc 67 args).run Try.prog w = .ok (.enter 67 args) w := enters_of Try.func67 (by kernel_rfl) rfl
/-- slices.SortFunc by slices.Compare. -/
theorem sortR_any {v : Value} {base : Nat} {xs : List RowT} {w : World} (h : kR.R 28 w base (fun _ => True) v xs) (hok : ∀ x ∈ xs, RowOk w x) (hl : xs.length ≤ 1000000) :
    Calls Try.prog 69 #[v, .func (.func 67) #[] #[]] w fun e w' => e = .returned (.tuple #[]) ∧ ∃ ys : List RowT, ys.Perm xs ∧ ys.Pairwise (fun x y => cmpL x.2 y.2 ≤ 0) ∧ kR.R 28 w' base (fun _ => True) v ys ∧ w.grownBy w' v.ownBlock := by
  by_cases h0 : 0 < xs.length
  · obtain ⟨g, cap, rfl, _⟩ := Kd.R_form h h0
    obtain ⟨cur, hb, hbase, h1, h2, h3, h4⟩ := cells_of_R h
    have hlt : g < w.heap.size := blk_lt hb
    obtain ⟨x0, hx0⟩ : ∃ x0, x0 ∈ xs := ⟨_, List.getElem_mem h0⟩
    let α := { x : RowT // x ∈ xs }
    let enc : α → Value := fun x => encR x.1
    haveI : Inhabited α := ⟨⟨x0, hx0⟩⟩
    obtain ⟨d, hd⟩ : ∃ d : List α, d.map (·.1) = xs := ⟨xs.attach, List.attach_map_subtype_val xs⟩
    have hdl : d.length = xs.length := by rw [← hd, List.length_map]
    have hmap : d.map enc = xs.map encR := by rw [← hd, List.map_map]; rfl
    have hH : Holds enc w g 0 d.toArray := holds_of_row hb (by rw [hdl, h4, hmap])
    have hne : ∀ x : α, x.1.1.1 ≠ g := fun x => (hok x.1 x.2).ne hb (by decide)
    have hcmp : CmpReads Try.prog 67 #[] enc (fun x y : α => cmpL x.1.2 y.1.2) g 0 d.toArray.size w := fun m os dk _ x y => by
      have hmv : ∀ x : α, Kd.C (Kd.int .i64) (sortWorld enc w g 0 m dk os) (some ⟨x.1.1.1, 0, none⟩) x.1.2.length x.1.2 := fun x =>
        ((hok x.1 x.2).2.2.2.move ((grownBy_sortedR dk).block _ (hok x.1 x.2).lt (fun e => hne x (by cases e; rfl)))).2
      exact (Compare_calls _ _ x.1.2 _ _ y.1.2 _ (hmv x) (hmv y)).mono fun e w' ⟨he, hw⟩ => ⟨he, 0, by rw [← hw]; rfl⟩
    have hcon := Try.slices_SortFunc enc (fun _ => rfl) (fun x y : α => cmpL x.1.2 y.1.2) (cmp_swo fun x : α => x.1.2) 67 #[] g 0 cap d.toArray w enters67 hcmp.lays hH hlt (by simp; omega)
    have hsz : d.toArray.size = xs.length := by simp [hdl]
    rw [hsz] at hcon
    refine hcon.mono ?_
    rintro e w' ⟨rfl, d', n, os, hp, hs, rfl⟩
    refine ⟨rfl, d'.toList.map (·.1), ?_, ?_, ?_, grownBy_sortedR d'⟩
    · have hp2 := hp.2.2
      have e1 : d'.extract 0 xs.length = d' := by rw [← hsz, ← hp.1]; simp
      have e2 : d.toArray.extract 0 xs.length = d.toArray := by rw [← hsz]; simp
      rw [e1, e2] at hp2
      have := hp2.map (fun x : α => x.1)
      rw [List.toList_toArray, hd] at this
      exact this
    · rw [List.pairwise_map, List.pairwise_iff_getElem]
      intro i j hi hj hij
      have hjs : j < xs.length := by rw [← hsz, ← hp.1]; simpa using hj
      have := hs i j (Nat.zero_le _) hij hjs
      rw [getElem!_pos d' i (by simpa using hi), getElem!_pos d' j (by simpa using hj)] at this
      unfold ltOf at this
      dsimp only at this
      rw [decide_eq_false_iff_not] at this
      have hsw := cmpL_swap (d'[i]'(by simpa using hi)).1.2 (d'[j]'(by simpa using hj)).1.2
      simp only [Array.getElem_toList]
      omega
    · have hd'l : d'.toList.length = xs.length := by rw [Array.length_toList, hp.1, hsz]
      have hml : (d'.toList.map fun x : α => x.1).length = xs.length := by rw [List.length_map, hd'l]
      refine Kd.R_of_own ?_ (fun _ _ => trivial)
      rw [hml]
      refine ⟨by simp [encs, hd'l], .inr ⟨g, cap, _, rfl, hbase, heap_sortedR d' hb, h1, h2, by simp [putCells, h3], ?_⟩⟩
      have := take_putCellsR (enc := enc) cur d'.toList (by rw [hd'l, h3]; exact h1)
      rw [hd'l] at this
      rw [Nat.mul_one]
      show (putCells enc 0 d' cur).toList.take xs.length = encs encR (d'.toList.map fun x : α => x.1)
      rw [Array.toArray_toList] at this
      rw [this, encs, List.map_map]
      rfl
  · have hnil : xs = [] := List.length_eq_zero_iff.1 (by omega)
    subst hnil
    obtain ⟨A, c, rfl, _, _⟩ := Kd.R_reads h
    refine (Try.slices_SortFunc_none (α := Nat) A c _ w).mono ?_
    rintro e w' ⟨rfl, rfl⟩
    exact ⟨rfl, [], List.Perm.refl _, List.Pairwise.nil, h, World.grownBy.refl _ _⟩

/-! ### slices.Clone -/
def W_at (w : World) (ad : Addr) (j : Nat) (u : Value) : Prop := w.cell? (ad.add j) = some u
theorem info28 : (Try.prog.info? 28).map (fun i => (i.zero, i.size, i.bytes)) = some (some (.slice none 0 0), 1, 24) := by kernel_rfl
theorem cloneR_any {A : Option Addr} {c : Nat} {xs : List RowT} {w : World} (hr : kR.C w A xs.length xs) (hl : xs.length ≤ 1000000) (h0 : xs ≠ []) :
    Calls Try.prog 71 #[.slice A xs.length c] w fun e w' => ∃ v, e = .returned v ∧ kR.R 28 w' w.heap.size (fun _ => True) v xs ∧ Below w.heap.size w w' := by
  have hpos : 0 < xs.length := List.length_pos_iff.2 h0
  obtain ⟨ad, hA, hc⟩ := hr.2.2 hpos
  subst hA
  have hcell : ∀ (j : Nat) (x : RowT), xs[j]? = some x → W_at w ad j (encR x) := fun j x hj => by
    obtain ⟨cs, h1, h2, h3⟩ := hc j x hj
    have h2' : cs = [encR x] := h2
    subst h2'
    have := h3 0 _ rfl
    rwa [Nat.add_zero, show kR.sz = 1 from rfl, Nat.mul_one] at this
  have hsp : ad.spot = none := by
    have := hcell 0 xs[0] (List.getElem?_eq_getElem hpos)
    unfold W_at World.cell? at this
    split at this
    · split at this
      · cases this
      · rename_i hs
        cases hsp : ad.spot with
        | none => rfl
        | some s => exact absurd (by show (ad.add 0).spot.isSome = true; simp [Addr.add, hsp]) hs
    · cases this
  obtain ⟨b, o, s⟩ := ad
  simp only at hsp
  subst hsp
  obtain ⟨i0, hi, hz0, hz1, hz2⟩ := info_parts info28
  have := Try.slices_Clone_f71 i0 (.slice none 0 0) 1 24 hi hz0 hz1 hz2 rfl (by decide) Try.sizeOf28 b o xs.length c (xs.map encR) w (by rw [List.length_map, Nat.mul_one]) (by unfold maxLen; omega) (by omega) (fun j u hu => by
    rw [List.getElem?_map] at hu
    obtain ⟨x, hx, rfl⟩ := Option.map_eq_some_iff.1 hu
    have := hcell j x hx
    unfold W_at at this
    rwa [add_at] at this) (fun u hu => by
    obtain ⟨x, _, rfl⟩ := List.mem_map.1 hu
    rfl)
  exact this.mono fun e w' ⟨v, h1, h2, _, h3⟩ => ⟨v, h1, Kd.R_of_own h2 (fun _ _ => trivial), h3⟩
end Go.Proofs.Ytaegldcifhgnmaa.A

/- Apart: the search for the most rings: what it gives, and what the memory holds. -/
namespace Go.Proofs.Ytaegldcifhgnmaa.A
open Go.RowKit Go.Proofs.YtaegldcifhgnmaaW.PrintWords Go.Proofs.YtaegldcifhgnmaaW.PrintMore
/-! ### plain -/
/-- No tie of a list is used. -/
def disjB (used : Nat) (b : List Int) : Bool := b.all fun i => !used.testBit i.toNat
/-- The longer list. -/
def updL {α : Type} (now best : List α) : List α := if best.length < now.length then now else best
/-- The longest list that is found from the d-th last ring on. -/
def lpB {α : Type} [Inhabited α] (key : α → List Int) (all : List α) : Nat → Nat → List α → List α → List α
  | 0, _, _, best => best
  | d + 1, used, now, best => lpB key all d used now (if disjB used (key (all.getD (all.length - (d + 1)) default)) then lpB key all d (used ||| setI (key (all.getD (all.length - (d + 1)) default))) (now ++ [all.getD (all.length - (d + 1)) default]) (updL (now ++ [all.getD (all.length - (d + 1)) default]) best) else best)

def onV70 (nb bb ab ob : Nat) : Value := .func (.func 70) #[] #[.pointer (some ⟨nb, 0, none⟩), .pointer (some ⟨bb, 0, none⟩), .pointer (some ⟨ab, 0, none⟩), .pointer (some ⟨ob, 0, none⟩)]
theorem enters70 : ∀ args w, (callFunc 70 args).run Try.prog w = .ok (.enter 70 args) w := enters_of Try.func70 (by kernel_rfl) rfl

structure OnSt (w0 : World) (B nb bb ab ob : Nat) (all : List RowT) (vall vn vb : Value) (now best : List RowT) (W : World) : Prop where
  bl : Below B w0 W
  cn : W.heap[nb]? = some (.cells #[vn] 53 (0, 0))
  cb : W.heap[bb]? = some (.cells #[vb] 53 (0, 0))
  ca : W.heap[ab]? = some (.cells #[vall] 53 (0, 0))
  co : W.heap[ob]? = some (.cells #[onV70 nb bb ab ob] 83 (0, 0))
  lo : B ≤ nb ∧ B ≤ bb ∧ nb ≠ bb ∧ nb ≠ ab ∧ nb ≠ ob ∧ bb ≠ ab ∧ bb ≠ ob
  sz : B ≤ W.heap.size ∧ B ≤ w0.heap.size
  rn : kR.R 28 W B (fun _ => True) vn now
  rb : kR.R 28 W B (fun _ => True) vb best
  ra : kR.R 28 W B (fun _ => True) vall all
  n1 : ∀ k, vb.ownBlock = some k → some k ≠ vn.ownBlock
  n2 : ∀ k, vall.ownBlock = some k → some k ≠ vn.ownBlock
  ok : ∀ x ∈ all, RowOk W x
  ns : ∀ x ∈ now, x ∈ all
  bs : ∀ x ∈ best, x ∈ all
section
variable {w0 W W1 : World} {B nb bb ab ob : Nat} {all now best q : List RowT} {vall vn vb v1 : Value}
theorem typed_ne {e e' : Nat} {g : Nat} {cs : Array Value} {v : Value} {base : Nat} {xs : List RowT} (hr : kR.R e W base (fun _ => True) v xs) (hb : W.heap[g]? = some (.cells cs e' (0, 0))) (he : e ≠ e') : some g ≠ v.ownBlock := fun e1 => by
  obtain ⟨cs', h⟩ := Kd.R_typed hr g e1.symm
  rw [hb] at h
  cases h
  exact he rfl
theorem setCell_parts (w : World) (p : Addr) (u : Value) : (w.setCell p u).os = w.os ∧ (w.setCell p u).tape = w.tape ∧ (w.setCell p u).output = w.output ∧ (w.setCell p u).heap.size = w.heap.size := by
  unfold World.setCell; split <;> simp
theorem OnSt.next (h : OnSt w0 B nb bb ab ob all vall vn vb now best W) (hb : Below W.heap.size W W1) : OnSt w0 B nb bb ab ob all vall vn vb now best W1 :=
  ⟨h.bl.trans (hb.mono h.sz.1), (hb.block _ (blk_lt h.cn)).trans h.cn, (hb.block _ (blk_lt h.cb)).trans h.cb, (hb.block _ (blk_lt h.ca)).trans h.ca, (hb.block _ (blk_lt h.co)).trans h.co, h.lo, ⟨Nat.le_trans h.sz.1 hb.size, h.sz.2⟩, Kd.R_below h.rn hb, Kd.R_below h.rb hb, Kd.R_below h.ra hb, h.n1, h.n2, fun x hx => (h.ok x hx).below hb, h.ns, h.bs⟩
theorem R_moved {e : Nat} {v : Value} {base : Nat} {xs : List RowT} {W' : World} (hr : kR.R e W base (fun _ => True) v xs) (hm : ∀ k, v.ownBlock = some k → W'.heap[k]? = W.heap[k]?) : kR.R e W' base (fun _ => True) v xs := by
  obtain ⟨hok, inner, ho, hrr⟩ := hr
  exact ⟨hok, inner, own_move ho hm, hrr⟩
/-- The list's cell is stored; its row may have grown. -/
theorem OnSt.store (h : OnSt w0 B nb bb ab ob all vall vn vb now best W) (hg : W.grownBy W1 vn.ownBlock) (hr : kR.R 28 W1 B (fun _ => True) v1 q) (hat : v1.ownBlock = vn.ownBlock ∨ ∃ b, v1.ownBlock = some b ∧ W.heap.size ≤ b) (hq : ∀ x ∈ q, x ∈ all) :
    OnSt w0 B nb bb ab ob all vall v1 vb q best (W1.setCell ⟨nb, 0, none⟩ v1) := by
  have hp := setCell_parts W1 ⟨nb, 0, none⟩ v1
  have hblk : ∀ k, k < W.heap.size → some k ≠ vn.ownBlock → k ≠ nb → (W1.setCell ⟨nb, 0, none⟩ v1).heap[k]? = W.heap[k]? := fun k hk hne hn3 => (Below.heap_setCell _ _ _ _ hn3).trans (hg.block k hk hne)
  have hlow : ∀ k, k < B → some k ≠ vn.ownBlock := fun k hk e => by have := Kd.R_base h.rn k e.symm; omega
  have hnv1 : ∀ k, k < W.heap.size → some k ≠ vn.ownBlock → some k ≠ v1.ownBlock := fun k hk hne e => by
    rcases hat with ho | ⟨b, hb, hle⟩
    · exact hne (e.trans ho)
    · rw [hb] at e; cases e; omega
  have hsz := hg.size
  have l := h.lo
  refine ⟨⟨hp.1.trans (hg.os.trans h.bl.os), hp.2.1.trans (hg.tape.trans h.bl.tape), hp.2.2.1.trans (hg.output.trans h.bl.output), by rw [hp.2.2.2]; exact Nat.le_trans h.bl.size hsz, fun k hk => (hblk k (by have := h.sz.1; omega) (hlow k hk) (by omega)).trans (h.bl.block k hk)⟩, ?_, ?_, ?_, ?_, l, ⟨by rw [hp.2.2.2]; have := h.sz.1; omega, h.sz.2⟩, ?_, ?_, ?_, ?_, ?_, ?_, hq, h.bs⟩
  · exact blk_set ((hg.block nb (blk_lt h.cn) (typed_ne h.rn h.cn (by decide))).trans h.cn) 0 _
  · exact (hblk bb (blk_lt h.cb) (typed_ne h.rn h.cb (by decide)) (Ne.symm l.2.2.1)).trans h.cb
  · exact (hblk ab (blk_lt h.ca) (typed_ne h.rn h.ca (by decide)) (Ne.symm l.2.2.2.1)).trans h.ca
  · exact (hblk ob (blk_lt h.co) (typed_ne h.rn h.co (by decide)) (Ne.symm l.2.2.2.2.1)).trans h.co
  · refine R_moved hr fun k hk => Below.heap_setCell _ _ _ _ fun e => ?_
    have h1 := (hg.block nb (blk_lt h.cn) (typed_ne h.rn h.cn (by decide))).trans h.cn
    exact typed_ne hr h1 (by decide) (by rw [hk, show k = nb from e])
  · exact R_moved h.rb fun k hk => hblk k (Kd.R_lt h.rb k hk) (h.n1 k hk) fun e => typed_ne h.rb h.cn (by decide) (by rw [hk, e])
  · exact R_moved h.ra fun k hk => hblk k (Kd.R_lt h.ra k hk) (h.n2 k hk) fun e => typed_ne h.ra h.cn (by decide) (by rw [hk, e])
  · exact fun k hk => hnv1 k (Kd.R_lt h.rb k hk) (h.n1 k hk)
  · exact fun k hk => hnv1 k (Kd.R_lt h.ra k hk) (h.n2 k hk)
  · intro x hx
    have hx' := h.ok x hx
    refine hx'.move (hblk _ hx'.lt (fun e => ?_) (hx'.ne h.cn (by decide)))
    obtain ⟨cs, hcs⟩ := Kd.R_typed h.rn _ e.symm
    exact hx'.ne hcs (by decide) rfl
theorem OnSt.cut {A : Option Addr} {n c m : Nat} (h : OnSt w0 B nb bb ab ob all vall (.slice A n c) vb now best W) (hm : m ≤ now.length) (hq : now.take m = q) : OnSt w0 B nb bb ab ob all vall (.slice A m c) vb q best (W.setCell ⟨nb, 0, none⟩ (.slice A m c)) := by
  have hr := Kd.R_take (m := m) h.rn hm
  rw [hq] at hr
  exact h.store (World.grownBy.refl W _) hr (.inl own_slice_same) fun x hx => h.ns x (List.mem_of_mem_take (by rw [hq]; exact hx))
/-- The best list's cell is stored: a copy. -/
theorem OnSt.keep (h : OnSt w0 B nb bb ab ob all vall vn vb now best W) (hb : Below W.heap.size W W1) (hr : kR.R 28 W1 W.heap.size (fun _ => True) v1 now) : OnSt w0 B nb bb ab ob all vall vn v1 now now (W1.setCell ⟨bb, 0, none⟩ v1) := by
  have hp := setCell_parts W1 ⟨bb, 0, none⟩ v1
  have hblk : ∀ k, k < W.heap.size → k ≠ bb → (W1.setCell ⟨bb, 0, none⟩ v1).heap[k]? = W.heap[k]? := fun k hk hne => (Below.heap_setCell _ _ _ _ hne).trans (hb.block k hk)
  have hsz := hb.size
  have l := h.lo
  refine ⟨⟨hp.1.trans (hb.os.trans h.bl.os), hp.2.1.trans (hb.tape.trans h.bl.tape), hp.2.2.1.trans (hb.output.trans h.bl.output), by rw [hp.2.2.2]; exact Nat.le_trans h.bl.size hsz, fun k hk => (hblk k (by have := h.sz.1; omega) (by omega)).trans (h.bl.block k hk)⟩, ?_, ?_, ?_, ?_, l, ⟨by rw [hp.2.2.2]; have := h.sz.1; omega, h.sz.2⟩, ?_, ?_, ?_, ?_, h.n2, ?_, h.ns, h.ns⟩
  · exact (hblk nb (blk_lt h.cn) l.2.2.1).trans h.cn
  · exact blk_set ((hb.block bb (blk_lt h.cb)).trans h.cb) 0 _
  · exact (hblk ab (blk_lt h.ca) (Ne.symm l.2.2.2.2.2.1)).trans h.ca
  · exact (hblk ob (blk_lt h.co) (Ne.symm l.2.2.2.2.2.2)).trans h.co
  · exact R_moved h.rn fun k hk => hblk k (Kd.R_lt h.rn k hk) fun e => typed_ne h.rn h.cb (by decide) (by rw [hk, e])
  · refine Kd.R_lower (R_moved hr fun k hk => Below.heap_setCell _ _ _ _ fun e => ?_) h.sz.1
    have := Kd.R_base hr k hk
    have := blk_lt h.cb
    have e' : k = bb := e
    omega
  · exact R_moved h.ra fun k hk => hblk k (Kd.R_lt h.ra k hk) fun e => typed_ne h.ra h.cb (by decide) (by rw [hk, e])
  · intro k hk e
    have := Kd.R_base hr k hk
    have := Kd.R_lt h.rn k e.symm
    omega
  · exact fun x hx => (h.ok x hx).move (hblk _ (h.ok x hx).lt ((h.ok x hx).ne h.cb (by decide)))
end
end Go.Proofs.Ytaegldcifhgnmaa.A

/- A drawn region with guards that say no, operation by operation. -/
namespace Go.Proofs.Ytaegldcifhgnmaa.A
variable {P : Program} {ops : Array Oper} {Q : Exit → Act → World → Prop} {md : Region.Mode} {S : World → Prop} {oi : Oper} {fuel : Nat} {listed : Array Bool} {a : Act} {w : World}
theorem noPanic_not {Q : Exit → Act → World → Prop} {c : List PanicEntry} {a : Act} {w : World} : ¬ NoPanic Q (.panic c) a w := fun h => h

theorem H_off (i d : Nat) (ho : ops[i]? = some oi) (hd : oi.dst = some d) (hn : Region.noSelect ops = true) (hf : Region.free md ops listed i = true) (hr : (Region.ready md ops listed).contains i = true)
    (hw : Region.wanted oi (yielded ops a.tmps) = false) (hS : S w) (h : wpAnyH P md ops (NoPanic Q) S fuel (listed.setIfInBounds i true) (a.put (some d) undef) w) : wpAnyH P md ops (NoPanic Q) S (fuel + 1) listed a w :=
  wpAnyH_take ho hn hf hr (fun _ _ _ h => (noPanic_not h).elim) (Or.inr ⟨hw, rfl⟩) hS (by rw [hd]; exact h)

theorem H_on (i d : Nat) (v : Value) (ho : ops[i]? = some oi) (hd : oi.dst = some d) (hn : Region.noSelect ops = true) (hf : Region.free md ops listed i = true) (hr : (Region.ready md ops listed).contains i = true)
    (hw : Region.wanted oi (yielded ops a.tmps) = true) (hy : ∀ w, S w → (execOp a.eval oi).run P w = .ok (.value v) w) (hS : S w) (h : wpAnyH P md ops (NoPanic Q) S fuel (listed.setIfInBounds i true) (a.put (some d) v) w) : wpAnyH P md ops (NoPanic Q) S (fuel + 1) listed a w :=
  wpAnyH_take ho hn hf hr (fun _ _ _ h => (noPanic_not h).elim) (Or.inl ⟨hw, hy⟩) hS (by rw [hd]; exact h)
end Go.Proofs.Ytaegldcifhgnmaa.A

/- Apart: what is done with each ring. -/
namespace Go.Proofs.Ytaegldcifhgnmaa.A
open Go.RowKit Go.Proofs.YtaegldcifhgnmaaW.PrintWords Go.Proofs.YtaegldcifhgnmaaW.PrintMore
theorem enters66 : ∀ args w, (callFunc 66 args).run Try.prog w = .ok (.enter 66 args) w := enters_of Try.func66 (by kernel_rfl) rfl
theorem zero28 (w : World) : (zeroValue 28).run Try.prog w = .ok (.slice none 0 0) w := by kernel_rfl
theorem or_two60 {m a : Nat} (hm : m < 2 ^ 60) (ha : a < 60) : bits .or .i64 (m : Int) (2 ^ a) = ((m ||| 2 ^ a : Nat) : Int) := by
  rw [pow_cast]
  have : 2 ^ a < 2 ^ 60 := Nat.pow_lt_pow_right (by decide) ha
  exact or64 _ _ (by omega) (by omega)

def VPost (cb mb : Nat) (f : Nat → Option (List Int)) (S : Nat → Prop) (W : World) (now : List Int) (fe : Nat) (e : Ending) (w' : World) : Prop :=
  e = .returned (.bool false) ∧ ∃ S', FirstIs cb mb (stepA f now fe) S' w' ∧ (∀ k, S' k → S k ∨ W.heap.size ≤ k) ∧ Fw S W w'
section
variable {cb mb : Nat} {f : Nat → Option (List Int)} {S : Nat → Prop} {W w' : World} {now : List Int} {fe : Nat}
theorem VPost.stay (h : FirstIs cb mb f S W) (hb : Below W.heap.size W w') (hs : stepA f now fe = f) : VPost cb mb f S W now fe (.returned (.bool false)) w' :=
  ⟨rfl, S, by rw [hs]; exact first_keep h (fun k hk => hb.block k (h.lt k hk)), fun _ h => .inl h, Fw.of_below hb⟩

set_option maxRecDepth 100000 in
set_option maxHeartbeats 3200000 in
theorem visitA_calls (A : Option Addr) (c : Nat) (h : FirstIs cb mb f S W) (hr : Kd.C (Kd.int .i64) W A now.length now) (hn : now.length ≤ 1000) (hg : GoodL now) (hf : fe ≤ 1000) :
    Calls Try.prog 66 #[.slice A now.length c, .int .i64 fe, .pointer (some ⟨cb, 0, none⟩)] W (VPost cb mb f S W now fe) := by
  have HH := Aside0.mk h
  have HR := Aside0.mk hr
  have HN := Aside0.mk hg.1
  have HG := Aside0.mk hg.2
  have hlt : ∀ i, i ≤ now.length → setI (now.take i) < 2 ^ 60 := fun i _ => setI_lt (m := 60) fun x hx => by have := hg.2 x (List.mem_of_mem_take hx); omega
  have HLT := Aside0.mk hlt
  obtain ⟨a0, _⟩ := cells1 h.cell
  obtain ⟨K, hK⟩ : ∃ K, setI now = K := ⟨_, rfl⟩
  have HK := Aside0.mk hK
  have hK60 : K < 2 ^ 60 := by rw [← hK]; have := hlt now.length (Nat.le_refl _); rwa [List.take_length] at this
  clear h hr hg hlt hK
  go_enter Try.func66, Try.ntmps66
  go_wp2
  go_loopg [6, 8, 13] now.length (fun gg v6 _ v13 wr => ∃ i : Nat, i ≤ now.length ∧ now.length - i ≤ gg ∧ v13 = .int .i64 i ∧ v6 = .int .i64 (setI (now.take i) : Int) ∧ W = wr)
  case atStart => exact ⟨0, Nat.zero_le _, by omega, rfl, rfl, rfl⟩
  case round =>
    obtain ⟨i, hi, hgg, rfl, rfl, rfl⟩ := hrel
    by_cases hlt : i < now.length
    · have hltz : (i : Int) < (now.length : Int) := by omega
      obtain ⟨ad, rfl, hx⟩ := Kd.at_int HR.out (i : Int) (by omega) (by omega)
      rw [Int.toNat_natCast] at hx
      have hrd : rd now (i : Int) = now.getD i 0 := by simp [rd]
      have hin := HG.out _ (getD_mem 0 hlt)
      obtain ⟨a, ha⟩ := Int.eq_ofNat_of_zero_le hin.1
      rw [hrd, ha] at hx
      have ha60 : a < 60 := by omega
      have hset : setI (now.take (i + 1)) = setI (now.take i) ||| 2 ^ a := by
        rw [List.take_succ_eq_append_getElem hlt, setI_snoc]
        have : now[i] = (a : Int) := by rw [← ha, List.getD_eq_getElem?_getD, List.getElem?_eq_getElem hlt]; rfl
        rw [this, Int.toNat_natCast]
      have HSET := Aside0.mk hset
      have hm60 := HLT.out i hi
      clear hrd hin ha hset
      generalize hs : setI (now.take i) = m at hm60 HSET
      clear hs
      go_wp2
      go_roundg (now.length - (i + 1))
      case measure => omega
      case rel => exact ⟨i + 1, by omega, by omega, by go_num, by rw [HSET.out, ← or_two60 hm60 ha60, wrap64_two (by omega)], rfl⟩
    · have hltz : ¬ (i : Int) < (now.length : Int) := by omega
      obtain rfl : i = now.length := by omega
      rw [List.take_length, HK.out]
      obtain ⟨D, d0, d1, d2⟩ := HH.out.map
      have D0 := Aside0.mk d0
      have D1 := Aside0.mk d1
      have D2 := Aside0.mk d2
      have hkey := key64 hK60
      clear d0 d1 d2
      have hlook : ∀ v ps, RV v = some (D.atKey (.int .i64 (K : Int)) .nil, ps) → Maps.has D (.int .i64 (K : Int)) = false → v = .slice none 0 0 := fun v ps hv hh => by
        rw [Maps.atKey_of_not_has hh] at hv
        rcases RV_inv hv with ⟨e, _⟩ | ⟨g, n, c, _, e⟩
        · exact e
        · injection e with e1 _; cases e1
      cases ho : oddB fe with
      | false =>
        have HO := Aside0.mk ho
        have HST : Aside0 (stepA f now fe = f) := ⟨by unfold stepA; rw [ho]; rfl⟩
        clear ho hlook
        go_wp2_with (first
          | (at_lookup; refine wpList_lookup_own_ok _ rfl _ _ 76 rfl 3 28 keyed3 Try.underlying76 RV (zero28 _) .nil [] RV_nil mb _ D rfl D0.out _ _ rfl hkey ?_; intro v ps hv; clear hv)
          | (go_at_call 50; go_must (refine (says_odd.call fe _ hf).mono ?_; rw [HO.out]; rintro e w2 ⟨rfl, hb2⟩; have HB2 := Aside0.mk hb2; clear hb2)))
        go_ret
        exact VPost.stay HH.out HB2.out HST.out
      | true =>
        have HO := Aside0.mk ho
        cases hfk : f K with
        | none =>
          have hh : Maps.has D (.int .i64 (K : Int)) = false := by
            rw [← Bool.not_eq_true]
            intro hh
            obtain ⟨j, _, e, hj⟩ := D1.out _ hh
            injection e with _ e2
            have : K = j := by omega
            rw [← this] at hj
            exact hj hfk
          have HST : Aside0 (stepA f now fe = fun k => if k = K then some now else f k) := ⟨by unfold stepA; rw [ho, HK.out, hfk]; rfl⟩
          have HL := Aside0.mk hlook
          clear ho hfk hlook
          go_upto_region 9 with (first
            | (at_lookup; refine wpList_lookup_own_ok _ rfl _ _ 76 rfl 3 28 keyed3 Try.underlying76 RV (zero28 _) .nil [] RV_nil mb _ D rfl D0.out _ _ rfl hkey ?_; intro v ps hv; obtain rfl := HL.out v ps hv hh; clear hv; rw [hh])
            | (go_at_call 50; go_must (refine (says_odd.call fe _ hf).mono ?_; rw [HO.out]; rintro e w2 ⟨rfl, hb2⟩; have HB2 := Aside0.mk hb2; clear hb2)))
          have HC2 := Aside0.mk (show w2.heap[cb]? = some (.cells #[.map (some mb)] 76 (0, 0)) from (HB2.out.block cb (blk_lt HH.out.cell)).trans HH.out.cell)
          obtain ⟨SS, hSS⟩ : ∃ SS : World → Prop, SS = (fun w' => w'.cell? ⟨cb, 0, none⟩ = some (.map (some mb))) := ⟨_, rfl⟩
          have HSS : Aside0 (∀ w', Below W.heap.size W w' → SS w') := ⟨fun w' h => by rw [hSS]; exact (cells1 ((h.block cb (blk_lt HH.out.cell)).trans HH.out.cell)).1⟩
          have HSI : Aside0 (∀ w', w'.cell? ⟨cb, 0, none⟩ = some (.map (some mb)) → SS w') := ⟨fun w' h => by rw [hSS]; exact h⟩
          have HSO : Aside0 (∀ w', SS w' → w'.cell? ⟨cb, 0, none⟩ = some (.map (some mb))) := ⟨fun w' h => by rw [hSS] at h; exact h⟩
          clear hSS
          refine wp_region_noPanic ?_
          refine wp_region_held_drew (S := SS) (by kernel_rfl) (HSS.out _ (below_drew HB2.out)) (fun hHeld => ?_)
          refine H_on 0 40 ?v0 rfl rfl (by kernel_rfl) (by kernel_rfl) (by kernel_rfl) (by rfl) ?h0 hHeld ?r0
          case h0 => (intro w hSw; have s0 := HSO.out w hSw; go_simp <;> with_reducible rfl)
          simp only [Act.put, List.setIfInBounds_toArray, List.set_cons_zero, List.set_cons_succ]
          refine H_on 1 41 ?v1 rfl rfl (by kernel_rfl) (by kernel_rfl) (by kernel_rfl) (by rfl) ?h1 hHeld ?r1
          case h1 => (intro w hSw; have s0 := HSO.out w hSw; go_simp <;> with_reducible rfl)
          simp only [Act.put, List.setIfInBounds_toArray, List.set_cons_zero, List.set_cons_succ]
          refine H_on 2 42 ?v2 rfl rfl (by kernel_rfl) (by kernel_rfl) (by kernel_rfl) (by rfl) ?h2 hHeld ?r2
          case h2 => (intro w hSw; have s0 := HSO.out w hSw; go_simp <;> with_reducible rfl)
          simp only [Act.put, List.setIfInBounds_toArray, List.set_cons_zero, List.set_cons_succ]
          refine wpAnyH_ready (rs := [3]) (by kernel_rfl) (by simp) ?_
          refine AllReadyH.cons rfl (fun K' hK' => ?_) AllReadyH.nil
          go_simp
          refine (clone_calls (Kd.C_below HR.out (below_drew HB2.out)) hn HN.out).mono ?_
          rintro e w3 ⟨v3, rfl, hr3, hb3⟩
          have HR3 := Aside0.mk (Kd.R_lower hr3 (below_drew HB2.out).size)
          have HB3 : Aside0 (Below W.heap.size W w3) := ⟨below_then (below_drew HB2.out) (below_drew HB2.out).size hb3⟩
          clear hr3 hb3
          go_wp2_with fail
          refine hK'.out _ _ (HSS.out _ HB3.out) (fun hHeld => ?_)
          clear hK' K'
          try simp only [Act.put, List.setIfInBounds_toArray, List.set_cons_zero, List.set_cons_succ]
          obtain ⟨g3, cap3, hv3, hg3, hg3', _⟩ := Kd.R_form HR3.out (List.length_pos_iff.2 HN.out)
          subst hv3
          obtain ⟨_, hlc3, hC3⟩ := Kd.R_reads' HR3.out
          have HC3 : Aside0 (RowAt w3 g3 now) := ⟨⟨Kd.R_typed HR3.out g3 rfl, hC3⟩⟩
          have D3 : Aside0 (w3.ownsMap Try.prog 3 RV mb (Maps.size D) D) := ⟨owns_move D0.out (HB3.out.block mb (HH.out.lt mb HH.out.smb))⟩
          have hfew := owns_few D0.out (fun kl h => by obtain ⟨k, h1, h2, _⟩ := D1.out kl h; exact ⟨k, h1, h2⟩)
          obtain ⟨w4, hrun4, hown4, hturn4⟩ := D3.out.store keyed3 Try.underlying76 (by unfold maxLen; omega) hkey (RV_some g3 now.length cap3)
          have HF := Aside0.mk (first_put HH.out HB3.out D0.out D1.out D2.out hK60 HN.out hn hlc3 hg3 hg3' HC3.out hown4 hturn4.grown)
          have HB4 : Aside0 (S = S ∧ w3.heap.size ≤ w4.heap.size) := ⟨rfl, hturn4.grown.size⟩
          clear hown4 hturn4 hfew hC3 hlc3
          refine wpAnyH_ready (rs := [4]) (by kernel_rfl) (by simp) ?_
          refine AllReadyH.cons rfl (fun K' hK' => ?_) AllReadyH.nil
          go_simp
          refine hK' _ _ (HSI.out _ (cells1 HF.out.1.cell).1) (fun hHeld => ?_)
          clear hK' K'
          try simp only [Act.put, List.setIfInBounds_toArray, List.set_cons_zero, List.set_cons_succ]
          refine wpAnyH_done (by kernel_rfl) ?_ _
          refine NoPanic.normal ?_
          clear hrun4
          go_wp2
          go_ret
          exact ⟨rfl, fun j => S j ∨ j = g3, by rw [HST.out]; exact HF.out.1, fun k hk => hk.elim .inl fun e => .inr (by rw [e]; exact hg3), HF.out.2⟩
        | some b =>
          obtain ⟨g, c', e1, e2, e3, e4, e5, e6, e7, e8⟩ := D2.out K b hfk
          have HAT := Aside0.mk e3
          have hh : Maps.has D (.int .i64 (K : Int)) = true := e2
          have HRB := Aside0.mk e8.2
          have HL : Aside0 (∀ v ps, RV v = some (D.atKey (.int .i64 (K : Int)) .nil, ps) → v = .slice (some ⟨g, 0, none⟩) b.length c') := ⟨fun v ps hv => by rw [HAT.out] at hv; exact RV_hd hv⟩
          obtain ⟨z, hz⟩ : ∃ z, cmpL now b = z := ⟨_, rfl⟩
          have HC := Aside0.mk hz
          by_cases hlz : z < 0
          · have HST : Aside0 (stepA f now fe = fun k => if k = K then some now else f k) := ⟨by
              unfold stepA
              rw [ho, HK.out, hfk]
              dsimp only
              rw [if_pos (by rw [Bool.true_and]; exact decide_eq_true (by rw [hz]; exact hlz))]⟩
            clear ho hfk hlook e1 e2 e3 e4 e5 e6 e7 e8 hz
            go_upto_region 9 with (first
              | (at_lookup; refine wpList_lookup_own_ok _ rfl _ _ 76 rfl 3 28 keyed3 Try.underlying76 RV (zero28 _) .nil [] RV_nil mb _ D rfl D0.out _ _ rfl hkey ?_; intro v ps hv; obtain rfl := HL.out v ps hv; clear hv; rw [hh])
              | (go_at_call 50; go_must (refine (says_odd.call fe _ hf).mono ?_; rw [HO.out]; rintro e w2 ⟨rfl, hb2⟩; have HB2 := Aside0.mk hb2; clear hb2))
              | (go_at_call 67; go_must (refine (Compare_calls A c now (some ⟨g, 0, none⟩) c' b _ (Kd.C_below HR.out HB2.out) (Kd.C_below HRB.out HB2.out)).mono ?_; rw [HC.out]; rintro e w' ⟨rfl, rfl⟩)))
            have HC2 := Aside0.mk (show w2.heap[cb]? = some (.cells #[.map (some mb)] 76 (0, 0)) from (HB2.out.block cb (blk_lt HH.out.cell)).trans HH.out.cell)
            obtain ⟨SS, hSS⟩ : ∃ SS : World → Prop, SS = (fun w' => w'.cell? ⟨cb, 0, none⟩ = some (.map (some mb))) := ⟨_, rfl⟩
            have HSS : Aside0 (∀ w', Below W.heap.size W w' → SS w') := ⟨fun w' h => by rw [hSS]; exact (cells1 ((h.block cb (blk_lt HH.out.cell)).trans HH.out.cell)).1⟩
            have HSI : Aside0 (∀ w', w'.cell? ⟨cb, 0, none⟩ = some (.map (some mb)) → SS w') := ⟨fun w' h => by rw [hSS]; exact h⟩
            have HSO : Aside0 (∀ w', SS w' → w'.cell? ⟨cb, 0, none⟩ = some (.map (some mb))) := ⟨fun w' h => by rw [hSS] at h; exact h⟩
            clear hSS
            refine wp_region_noPanic ?_
            refine wp_region_held_drew (S := SS) (by kernel_rfl) (HSS.out _ (below_drew HB2.out)) (fun hHeld => ?_)
            refine H_on 0 40 ?vb0 rfl rfl (by kernel_rfl) (by kernel_rfl) (by kernel_rfl) (by rfl) ?hb0 hHeld ?rb0
            case hb0 => (intro w hSw; have s0 := HSO.out w hSw; go_simp <;> with_reducible rfl)
            simp only [Act.put, List.setIfInBounds_toArray, List.set_cons_zero, List.set_cons_succ]
            refine H_on 1 41 ?vb1 rfl rfl (by kernel_rfl) (by kernel_rfl) (by kernel_rfl) (by rfl) ?hb1 hHeld ?rb1
            case hb1 => (intro w hSw; have s0 := HSO.out w hSw; go_simp <;> with_reducible rfl)
            simp only [Act.put, List.setIfInBounds_toArray, List.set_cons_zero, List.set_cons_succ]
            refine H_on 2 42 ?vb2 rfl rfl (by kernel_rfl) (by kernel_rfl) (by kernel_rfl) (by rfl) ?hb2 hHeld ?rb2
            case hb2 => (intro w hSw; have s0 := HSO.out w hSw; go_simp <;> with_reducible rfl)
            simp only [Act.put, List.setIfInBounds_toArray, List.set_cons_zero, List.set_cons_succ]
            refine wpAnyH_ready (rs := [3]) (by kernel_rfl) (by simp) ?_
            refine AllReadyH.cons rfl (fun K' hK' => ?_) AllReadyH.nil
            go_simp
            refine (clone_calls (Kd.C_below HR.out (below_drew HB2.out)) hn HN.out).mono ?_
            rintro e w3 ⟨v3, rfl, hr3, hb3⟩
            have HR3 := Aside0.mk (Kd.R_lower hr3 (below_drew HB2.out).size)
            have HB3 : Aside0 (Below W.heap.size W w3) := ⟨below_then (below_drew HB2.out) (below_drew HB2.out).size hb3⟩
            clear hr3 hb3
            go_wp2_with fail
            refine hK'.out _ _ (HSS.out _ HB3.out) (fun hHeld => ?_)
            clear hK' K'
            try simp only [Act.put, List.setIfInBounds_toArray, List.set_cons_zero, List.set_cons_succ]
            obtain ⟨g3, cap3, hv3, hg3, hg3', _⟩ := Kd.R_form HR3.out (List.length_pos_iff.2 HN.out)
            subst hv3
            obtain ⟨_, hlc3, hC3⟩ := Kd.R_reads' HR3.out
            have HC3 : Aside0 (RowAt w3 g3 now) := ⟨⟨Kd.R_typed HR3.out g3 rfl, hC3⟩⟩
            have D3 : Aside0 (w3.ownsMap Try.prog 3 RV mb (Maps.size D) D) := ⟨owns_move D0.out (HB3.out.block mb (HH.out.lt mb HH.out.smb))⟩
            have hfew := owns_few D0.out (fun kl h => by obtain ⟨k, h1, h2, _⟩ := D1.out kl h; exact ⟨k, h1, h2⟩)
            obtain ⟨w4, hrun4, hown4, hturn4⟩ := D3.out.store keyed3 Try.underlying76 (by unfold maxLen; omega) hkey (RV_some g3 now.length cap3)
            have HF := Aside0.mk (first_put HH.out HB3.out D0.out D1.out D2.out hK60 HN.out hn hlc3 hg3 hg3' HC3.out hown4 hturn4.grown)
            have HB4 : Aside0 (S = S ∧ w3.heap.size ≤ w4.heap.size) := ⟨rfl, hturn4.grown.size⟩
            clear hown4 hturn4 hfew hC3 hlc3
            refine wpAnyH_ready (rs := [4]) (by kernel_rfl) (by simp) ?_
            refine AllReadyH.cons rfl (fun K' hK' => ?_) AllReadyH.nil
            go_simp
            refine hK' _ _ (HSI.out _ (cells1 HF.out.1.cell).1) (fun hHeld => ?_)
            clear hK' K'
            try simp only [Act.put, List.setIfInBounds_toArray, List.set_cons_zero, List.set_cons_succ]
            refine wpAnyH_done (by kernel_rfl) ?_ _
            refine NoPanic.normal ?_
            clear hrun4
            go_wp2
            go_ret
            exact ⟨rfl, fun j => S j ∨ j = g3, by rw [HST.out]; exact HF.out.1, fun k hk => hk.elim .inl fun e => .inr (by rw [e]; exact hg3), HF.out.2⟩
          · have HST : Aside0 (stepA f now fe = f) := ⟨by
              unfold stepA
              rw [ho, HK.out, hfk]
              dsimp only
              rw [if_neg (by rw [Bool.true_and]; intro h; have := of_decide_eq_true h; rw [hz] at this; exact hlz this)]⟩
            clear ho hfk hlook e1 e2 e3 e4 e5 e6 e7 e8 hz
            go_wp2_with (first
              | (at_lookup; refine wpList_lookup_own_ok _ rfl _ _ 76 rfl 3 28 keyed3 Try.underlying76 RV (zero28 _) .nil [] RV_nil mb _ D rfl D0.out _ _ rfl hkey ?_; intro v ps hv; obtain rfl := HL.out v ps hv; clear hv; rw [hh])
              | (go_at_call 50; go_must (refine (says_odd.call fe _ hf).mono ?_; rw [HO.out]; rintro e w2 ⟨rfl, hb2⟩; have HB2 := Aside0.mk hb2; clear hb2))
              | (go_at_call 67; go_must (refine (Compare_calls A c now (some ⟨g, 0, none⟩) c' b _ (Kd.C_below HR.out HB2.out) (Kd.C_below HRB.out HB2.out)).mono ?_; rw [HC.out]; rintro e w' ⟨rfl, rfl⟩)))
            go_ret
            exact VPost.stay HH.out HB2.out HST.out
theorem first_visitor : Visitor 66 #[.pointer (some ⟨cb, 0, none⟩)] stepA (FirstIs cb mb) where
  enters := enters66
  lt h := h.lt
  keep := first_keep
  call A c _ _ hI hr hn _ hg hf _ := visitA_calls A c hI hr hn hg hf
end
end Go.Proofs.Ytaegldcifhgnmaa.A

/- Apart: the search for the most rings, walked. -/
namespace Go.Proofs.Ytaegldcifhgnmaa.A
open Go.RowKit Go.Proofs.YtaegldcifhgnmaaW.PrintWords Go.Proofs.YtaegldcifhgnmaaW.PrintMore
theorem getD_append_left' {b : List Int} {i : Nat} (hi : i < b.length) : b.take (i + 1) = b.take i ++ [b.getD i 0] := by
  rw [List.take_succ_eq_append_getElem hi, List.getD_eq_getElem?_getD, List.getElem?_eq_getElem hi]; rfl
theorem disj_take {used : Nat} {b : List Int} {i : Nat} (hi : i < b.length) (h : disjB used (b.take i) = true) : disjB used (b.take (i + 1)) = !used.testBit (b.getD i 0).toNat := by
  unfold disjB at *
  rw [getD_append_left' hi, List.all_append, h, List.all_cons, List.all_nil, Bool.and_true, Bool.true_and]
theorem disj_no {used : Nat} {b : List Int} {i : Nat} (hi : i < b.length) (h : used.testBit (b.getD i 0).toNat = true) : disjB used b = false := by
  unfold disjB
  rw [List.all_eq_false]
  exact ⟨_, getD_mem 0 hi, by rw [h]; decide⟩

section
variable {w0 : World} {B nb bb ab ob : Nat} {all : List RowT} {vall : Value}
def keyR (x : RowT) : List Int := x.2
def OnPost70 (w0 : World) (B nb bb ab ob : Nat) (all : List RowT) (vall : Value) (now best : List RowT) (e : Ending) (w' : World) : Prop :=
  e = .returned (.tuple #[]) ∧ ∃ vn vb, OnSt w0 B nb bb ab ob all vall vn vb now best w'
def OnSaid70 (w0 : World) (B nb bb ab ob : Nat) (all : List RowT) (vall : Value) (d : Nat) : Prop :=
  ∀ (fr used : Nat) (now best : List RowT) (vn vb : Value) (W : World), OnSt w0 B nb bb ab ob all vall vn vb now best W → fr + d = all.length → used < 2 ^ 60 → now.length ≤ fr →
    Calls Try.prog 70 #[.int .i64 fr, .int .i64 used, .pointer (some ⟨nb, 0, none⟩), .pointer (some ⟨bb, 0, none⟩), .pointer (some ⟨ab, 0, none⟩), .pointer (some ⟨ob, 0, none⟩)] W (OnPost70 w0 B nb bb ab ob all vall now (lpB keyR all d used now (updL now best)))

theorem OnSt.reads {w0 W w' : World} {vall vn vb : Value} {now best : List RowT} {A : Option Addr} {n ca : Nat} (h : OnSt w0 B nb bb ab ob all vall vn vb now best W) (hg : W.grownBy w' vn.ownBlock) (hv : vall = .slice A n ca) {k : Nat} {ad : Addr} (hA : A = some ad) {y : RowT} (hk : k < all.length) (hy : all.getD k default = y) :
    w'.cell? ⟨ab, 0, none⟩ = some vall ∧ w'.cell? (ad.add k) = some (encR y) := by
  have hra : kR.R 28 w' B (fun _ => True) vall all := R_moved h.ra fun k hk => hg.block k (Kd.R_lt h.ra k hk) (h.n2 k hk)
  refine ⟨(cells1 ((hg.block ab (blk_lt h.ca) (typed_ne h.rn h.ca (by decide))).trans h.ca)).1, ?_⟩
  subst hv hA
  obtain ⟨_, _, hCa⟩ := Kd.R_reads' hra
  obtain ⟨ad', had, hx0⟩ := ReadsOf.at_ (Kd.reads_of_C (d := default) hCa) (k : Int) (by omega) (by have := hCa.1; omega)
  cases had
  rw [Int.toNat_natCast] at hx0
  have hrd : rdOf default all (k : Int) = all.getD k default := by simp [rdOf]
  rw [hrd, hy] at hx0
  exact hx0
theorem take_keyB {b : List Int} {i : Nat} (hi : i < b.length) {a : Nat} (ha : b.getD i 0 = (a : Int)) : setI (b.take (i + 1)) = setI (b.take i) ||| 2 ^ a := by
  rw [getD_append_left' hi, setI_snoc, ha, Int.toNat_natCast]
theorem setIn_ltB {b : List Int} (h : ∀ i ∈ b, 0 ≤ i ∧ i < 60) (i : Nat) : setI (b.take i) < 2 ^ 60 := setI_lt (m := 60) fun x hx => by have := h x (List.mem_of_mem_take hx); omega
theorem lp_stepB {all : List RowT} {k : Nat} {x : RowT} (hk : k < all.length) (hx : all.getD k default = x) (used : Nat) (now best : List RowT) :
    lpB keyR all (all.length - k) used now best = lpB keyR all (all.length - (k + 1)) used now (if disjB used x.2 then lpB keyR all (all.length - (k + 1)) (used ||| setI x.2) (now ++ [x]) (updL (now ++ [x]) best) else best) := by
  obtain ⟨d, hd⟩ : ∃ d, all.length - k = d + 1 := ⟨all.length - k - 1, by omega⟩
  rw [hd, lpB, show all.length - (d + 1) = k by omega, hx, show all.length - (k + 1) = d by omega]
  rfl

set_option linter.unusedSimpArgs false in
set_option maxRecDepth 100000 in
set_option maxHeartbeats 6400000 in
theorem on70_step (hal : all.length ≤ 100000) (hbd : ∀ x ∈ all, ∀ i ∈ x.2, 0 ≤ i ∧ i < 60) (d : Nat) (ih : ∀ d', d' < d → OnSaid70 w0 B nb bb ab ob all vall d') : OnSaid70 w0 B nb bb ab ob all vall d := by
  intro fr used now best vn vb W hO hfr hu hnf
  have HI := Aside0.mk ih
  have HO := Aside0.mk hO
  have HBD := Aside0.mk hbd
  obtain ⟨Z, hZ⟩ : ∃ Z, lpB keyR all d used now (updL now best) = Z := ⟨_, rfl⟩
  have HZ := Aside0.mk hZ
  rw [hZ]
  obtain ⟨An, cn, hvn, hcn, hCn⟩ := Kd.R_reads hO.rn
  obtain ⟨Ab, cb, hvb, hcb, _⟩ := Kd.R_reads hO.rb
  obtain ⟨Aa, ca, hva, hca, hCa⟩ := Kd.R_reads hO.ra
  subst hvn hvb hva
  have HCN := Aside0.mk hCn
  obtain ⟨l0, _⟩ := cells1 hO.cn
  obtain ⟨l1, lf1⟩ := cells1 hO.cb
  clear hO ih hbd hcn hcb hca hCn hCa hZ
  by_cases hlt : best.length < now.length
  · have hltz : (best.length : Int) < (now.length : Int) := by omega
    have HUP : Aside0 (updL now best = now) := ⟨by unfold updL; rw [if_pos hlt]⟩
    have hne : now ≠ [] := by intro e; rw [e] at hlt; exact absurd hlt (Nat.not_lt_zero _)
    go_enter Try.func70, Try.ntmps70
    go_wp2
    go_step3
    go_wp2_with (go_at_call 71; go_must (refine (cloneR_any HCN.out (by omega) hne).mono ?_; rintro e w3 ⟨v3, rfl, hr3, hb3⟩; obtain ⟨l3, lf3⟩ := cells1 ((hb3.block bb (blk_lt HO.out.cb)).trans HO.out.cb); have HO3 := Aside0.mk (HO.out.keep hb3 hr3); obtain ⟨A3, c3, hv3, _, _⟩ := Kd.R_reads hr3; subst hv3; clear hr3 hb3 l0 l1 lf1))
    obtain ⟨W5, hW5⟩ : ∃ W5, W5 = w3.setCell ⟨bb, 0, none⟩ (.slice A3 now.length c3) := ⟨_, rfl⟩
    have HL : Aside0 (∃ vb5, OnSt w0 B nb bb ab ob all (.slice Aa all.length ca) (.slice An now.length cn) vb5 now (updL now best) W5) := ⟨_, by rw [hW5, HUP.out]; exact HO3.out⟩
    rw [← hW5]
    clear hW5 HO3 l3 lf3 HUP HO HCN
    refine wp_label ?_
    go_wp2
    go_loopg [8, 9, 11, 32] all.length (fun gg v8 _ _ _ wr => ∃ (k : Nat) (vn vb : Value) (best' : List RowT), k ≤ all.length ∧ fr ≤ k ∧ all.length - k ≤ gg ∧ v8 = .int .i64 k ∧ Aside0 (OnSt w0 B nb bb ab ob all (.slice Aa all.length ca) vn vb now best' wr) ∧ Aside0 (lpB keyR all (all.length - k) used now best' = Z))
    case atStart =>
      obtain ⟨vb5, h5⟩ := HL.out
      exact ⟨fr, _, vb5, _, by omega, Nat.le_refl _, by omega, rfl, ⟨h5⟩, ⟨by rw [show all.length - fr = d by omega]; exact HZ.out⟩⟩
    case round =>
      clear HL HZ
      obtain ⟨k, vn, vb, best', hk, hfk, hgg, rfl, HP, HZ⟩ := hrel
      by_cases hkl : k < all.length
      · have hklz : (k : Int) < (all.length : Int) := by omega
        obtain ⟨hca, hca2, hCa⟩ := Kd.R_reads' HP.out.ra
        obtain ⟨ad, had, hx0⟩ := ReadsOf.at_ (Kd.reads_of_C (d := default) hCa) (k : Int) (by omega) (by omega)
        subst had
        rw [Int.toNat_natCast] at hx0
        have hrd : rdOf default all (k : Int) = all.getD k default := by simp [rdOf]
        rw [hrd] at hx0
        have hmem : all.getD k default ∈ all := getD_mem default hkl
        generalize hy : all.getD k default = y at hx0 hmem
        have HY := Aside0.mk hy
        have HMEM := Aside0.mk hmem
        obtain ⟨⟨g, c⟩, b⟩ := y
        have hx : wr.cell? (ad.add k) = some (.slice (some ⟨g, 0, none⟩) b.length c) := hx0
        have hok := HP.out.ok _ hmem
        have HRC : Aside0 (Kd.C (Kd.int .i64) wr (some ⟨g, 0, none⟩) b.length b) := ⟨hok.2.2.2.2⟩
        have hbl : b.length ≤ 1000 := hok.2.1
        have HB60 : Aside0 (∀ i ∈ b, 0 ≤ i ∧ i < 60) := ⟨HBD.out _ hmem⟩
        have HSTEP := Aside0.mk (lp_stepB hkl hy used now best')
        obtain ⟨l2, _⟩ := cells1 HP.out.ca
        clear hca hca2 hCa hx0 hrd hmem hy hok
        go_wp2
        go_loopg [9, 11, 32] b.length (fun g2 v9 _ v32 w2 => ∃ i : Nat, i ≤ b.length ∧ b.length - i ≤ g2 ∧ v32 = .int .i64 i ∧ v9 = .int .i64 ((used ||| setI (b.take i) : Nat) : Int) ∧ disjB used (b.take i) = true ∧ wr = w2)
        case atStart => exact ⟨0, Nat.zero_le _, by omega, rfl, by rw [List.take_zero]; show _ = Value.int .i64 ((used ||| 0 : Nat) : Int); rw [Nat.or_zero], rfl, rfl⟩
        case round =>
          obtain ⟨i, hi, hg2, rfl, rfl, hdj, rfl⟩ := hrel
          by_cases hil : i < b.length
          · have hilz : (i : Int) < (b.length : Int) := by omega
            obtain ⟨ad3, hr3, hx3⟩ := Kd.at_int HRC.out (i : Int) (by omega) (by omega)
            cases hr3
            rw [Int.toNat_natCast] at hx3
            have hrd3 : rd b (i : Int) = b.getD i 0 := by simp [rd]
            have hin := HB60.out _ (getD_mem 0 hil)
            obtain ⟨a, ha⟩ := Int.eq_ofNat_of_zero_le hin.1
            rw [hrd3, ha, show (⟨g, 0, none⟩ : Addr).add i = ⟨g, i, none⟩ by rw [add_at, Nat.zero_add]] at hx3
            have ha60 : a < 60 := by omega
            have hset := take_keyB hil ha
            have hd1 := disj_take (used := used) hil hdj
            rw [ha, Int.toNat_natCast] at hd1
            have HD1 := Aside0.mk hd1
            have hd2 := disj_no (used := used) hil
            rw [ha, Int.toNat_natCast] at hd2
            have HD2 := Aside0.mk hd2
            have HSET := Aside0.mk hset
            have hm60 := setIn_ltB HB60.out i
            have hbit := bit_ask (y := used) (k := a) (by omega) (by omega)
            clear hrd3 hin ha hset hd1 hd2 hdj
            cases htb : used.testBit a with
            | true =>
              rw [htb] at hbit
              have HNO := Aside0.mk (HD2.out htb)
              go_wp2
              go_roundg (all.length - (k + 1))
              case measure => omega
              case rel => exact ⟨k + 1, vn, vb, best', by omega, by omega, by omega, by go_num, HP, ⟨by rw [← HZ.out, HSTEP.out, HNO.out]; rfl⟩⟩
            | false =>
              rw [htb] at hbit HD1
              generalize hs : setI (b.take i) = m at hm60 HSET ⊢
              have HU := Aside0.mk (or_lt hu hm60)
              generalize hum : used ||| m = um at HU ⊢
              have HUM := Aside0.mk hum
              clear hum
              go_wp2
              go_roundg (b.length - (i + 1))
              case measure => omega
              case rel => exact ⟨i + 1, by omega, by omega, by go_num, by rw [HSET.out, ← Nat.or_assoc, HUM.out, ← or_two60 HU.out ha60, wrap64_two (by omega)], HD1.out, rfl⟩
          · have hilz : ¬ (i : Int) < (b.length : Int) := by omega
            obtain rfl : i = b.length := by omega
            rw [List.take_length] at hdj ⊢
            have HDJ := Aside0.mk hdj
            have hm60 := setIn_ltB HB60.out b.length
            rw [List.take_length] at hm60
            generalize hs : setI b = m at hm60 ⊢
            have HM := Aside0.mk hs
            clear hs hdj
            generalize hum : used ||| m = um
            have HUM := Aside0.mk hum
            have HU := Aside0.mk (show um < 2 ^ 60 by rw [← hum]; exact or_lt hu hm60)
            clear hum hm60
            obtain ⟨A1, c1, hv1, _, _⟩ := Kd.R_reads HP.out.rn
            subst hv1
            obtain ⟨Y, hYY⟩ : ∃ Y, lpB keyR all (all.length - (k + 1)) um (now ++ [((g, c), b)]) (updL (now ++ [((g, c), b)]) best') = Y := ⟨_, rfl⟩
            have HNEXT : Aside0 (lpB keyR all (all.length - (k + 1)) used now Y = Z) := ⟨by
              have := HSTEP.out
              try dsimp only at this
              rw [HDJ.out, if_pos rfl, HM.out, HUM.out, hYY] at this
              rw [← this]; exact HZ.out⟩
            have HREC : Aside0 (∀ V4 W6, OnSt w0 B nb bb ab ob all (.slice (some ad) all.length ca) V4 vb (now ++ [((g, c), b)]) best' W6 → Calls Try.prog 70 #[.int .i64 ((k : Int) + 1), .int .i64 um, .pointer (some ⟨nb, 0, none⟩), .pointer (some ⟨bb, 0, none⟩), .pointer (some ⟨ab, 0, none⟩), .pointer (some ⟨ob, 0, none⟩)] W6 (OnPost70 w0 B nb bb ab ob all (.slice (some ad) all.length ca) (now ++ [((g, c), b)]) Y)) := ⟨fun V4 W6 h6 => by
              have := HI.out (all.length - (k + 1)) (by omega) (k + 1) um (now ++ [((g, c), b)]) best' V4 vb W6 h6 (by omega) HU.out (by rw [List.length_append, List.length_singleton]; omega)
              rw [hYY, show ((k + 1 : Nat) : Int) = (k : Int) + 1 by omega] at this
              exact this⟩
            clear hYY
            go_wp2
            have HSG : Aside0 (∀ w', wr.grownBy w' (Value.slice A1 now.length c1).ownBlock → w'.cell? ⟨ab, 0, none⟩ = some (.slice (some ad) all.length ca) ∧ w'.cell? (ad.add k) = some (.slice (some ⟨g, 0, none⟩) b.length c)) := ⟨fun w' hg => HP.out.reads hg rfl rfl hkl HY.out⟩
            have HSP : Aside0 (∀ V W6, OnSt w0 B nb bb ab ob all (.slice (some ad) all.length ca) V vb (now ++ [((g, c), b)]) best' W6 → W6.cell? ⟨ab, 0, none⟩ = some (.slice (some ad) all.length ca) ∧ W6.cell? (ad.add k) = some (.slice (some ⟨g, 0, none⟩) b.length c)) := ⟨fun V W6 h => h.reads (World.grownBy.refl W6 _) rfl rfl hkl HY.out⟩
            obtain ⟨SS, hSS⟩ : ∃ SS : World → Prop, SS = (fun w' => w'.cell? ⟨ab, 0, none⟩ = some (.slice (some ad) all.length ca) ∧ w'.cell? (ad.add k) = some (.slice (some ⟨g, 0, none⟩) b.length c)) := ⟨_, rfl⟩
            have HSI : Aside0 (∀ w', (w'.cell? ⟨ab, 0, none⟩ = some (.slice (some ad) all.length ca) ∧ w'.cell? (ad.add k) = some (.slice (some ⟨g, 0, none⟩) b.length c)) → SS w') := ⟨fun w' h => by rw [hSS]; exact h⟩
            have HSO : Aside0 (∀ w', SS w' → w'.cell? ⟨ab, 0, none⟩ = some (.slice (some ad) all.length ca) ∧ w'.cell? (ad.add k) = some (.slice (some ⟨g, 0, none⟩) b.length c)) := ⟨fun w' h => by rw [hSS] at h; exact h⟩
            have HG0 : Aside0 (wr.grownBy wr.drew (Value.slice A1 now.length c1).ownBlock) := ⟨⟨rfl, rfl, rfl, Nat.le_refl _, fun _ _ _ => rfl⟩⟩
            have HG1 : Aside0 (wr.grownBy (wr.drew.alloc (.cells #[.slice (some ⟨g, 0, none⟩) b.length c] 28)) (Value.slice A1 now.length c1).ownBlock) := ⟨HG0.out.trans (World.grownBy_alloc _ _ _)⟩
            have HP0 : Aside0 (OnSt w0 B nb bb ab ob all (.slice (some ad) all.length ca) (.slice A1 now.length c1) vb now best' wr.drew) := ⟨HP.out.next (below_drew (Below.refl _ _))⟩
            clear hSS l2 hx
            refine wp_region_noPanic ?_
            refine wp_region_held_drew (S := SS) (by kernel_rfl) (HSI.out _ (HSG.out _ HG0.out)) (fun hHeld => ?_)
            refine H_on 1 47 ?va1 rfl rfl (by kernel_rfl) (by kernel_rfl) (by kernel_rfl) (by rfl) ?ha1 hHeld ?ra1
            case ha1 => (intro w hSw; obtain ⟨s0, s1⟩ := HSO.out w hSw; go_simp <;> with_reducible rfl)
            simp only [Act.put, List.setIfInBounds_toArray, List.set_cons_zero, List.set_cons_succ]
            refine H_on 2 48 ?va2 rfl rfl (by kernel_rfl) (by kernel_rfl) (by kernel_rfl) (by rfl) ?ha2 hHeld ?ra2
            case ha2 => (intro w hSw; obtain ⟨s0, s1⟩ := HSO.out w hSw; go_simp <;> with_reducible rfl)
            simp only [Act.put, List.setIfInBounds_toArray, List.set_cons_zero, List.set_cons_succ]
            refine H_on 3 49 ?va3 rfl rfl (by kernel_rfl) (by kernel_rfl) (by kernel_rfl) (by rfl) ?ha3 hHeld ?ra3
            case ha3 => (intro w hSw; obtain ⟨s0, s1⟩ := HSO.out w hSw; go_simp <;> with_reducible rfl)
            simp only [Act.put, List.setIfInBounds_toArray, List.set_cons_zero, List.set_cons_succ]
            refine H_on 4 50 ?va4 rfl rfl (by kernel_rfl) (by kernel_rfl) (by kernel_rfl) (by rfl) ?ha4 hHeld ?ra4
            case ha4 => (intro w hSw; obtain ⟨s0, s1⟩ := HSO.out w hSw; go_simp <;> with_reducible rfl)
            simp only [Act.put, List.setIfInBounds_toArray, List.set_cons_zero, List.set_cons_succ]
            obtain ⟨l0, lf0⟩ := cells1 HP0.out.cn
            have HPB := Aside0.mk (HP0.out.next (below_alloc (Below.refl _ _) (.cells #[.slice (some ⟨g, 0, none⟩) b.length c] 28)))
            obtain ⟨l0b, lf0b⟩ := cells1 HPB.out.cn
            refine wpAnyH_ready (rs := [0, 5]) (by kernel_rfl) (by simp) ?_
            refine AllReadyH.cons rfl (fun K' hK' => ?_) (AllReadyH.cons rfl (fun K' hK' => ?_) AllReadyH.nil)
            · go_simp
              refine hK'.out _ _ (HSI.out _ (HSG.out _ HG0.out)) (fun hHeld => ?_)
              clear hK' K'
              try simp only [Act.put, List.setIfInBounds_toArray, List.set_cons_zero, List.set_cons_succ]
              refine wpAnyH_ready (rs := [5]) (by kernel_rfl) (by simp) ?_
              refine AllReadyH.cons rfl (fun K' hK' => ?_) AllReadyH.nil
              go_simp
              refine hK'.out _ _ (HSI.out _ (HSG.out _ HG1.out)) (fun hHeld => ?_)
              clear hK' K'
              try simp only [Act.put, List.setIfInBounds_toArray, List.set_cons_zero, List.set_cons_succ]
              refine wpAnyH_ready (rs := [6]) (by kernel_rfl) (by simp) ?_
              refine AllReadyH.cons rfl (fun K' hK' => ?_) AllReadyH.nil
              refine Kd.R_append_step kR (w0 := wr.drew) B rfl (.tmp 46) (.tmp 51) 53 28 (.slice none 0 0) 24 rfl Try.underlying53 info28 rfl (by decide) (by decide) (.slice A1 now.length c1) now ((g, c), b) [encR ((g, c), b)] (fun _ => True) (fun _ => False) rfl rfl rfl (fun _ hk => hk.elim) (fun _ _ => trivial) HP0.out.rn (Below.refl _ _) HP0.out.sz.1 (by omega) ?_
              intro v4 w4 ho _ hg4 hat
              have hgr := HG0.out.trans hg4
              obtain ⟨l4, lf4⟩ := cells1 ((hg4.block nb (blk_lt HP0.out.cn) (typed_ne HP0.out.rn HP0.out.cn (by decide))).trans HP0.out.cn)
              obtain ⟨A4, c4, hv4, _, _⟩ := Kd.R_reads ho
              rw [show (now ++ [((g, c), b)]).length = now.length + 1 from by simp] at hv4
              subst hv4
              have HP5 := Aside0.mk (HP0.out.store hg4 ho hat fun x hx => by rcases List.mem_append.1 hx with h | h; exact HP.out.ns x h; rw [List.mem_singleton.1 h]; exact HMEM.out)
              refine hK'.out _ _ (HSI.out _ (HSG.out _ hgr)) (fun hHeld => ?_)
              clear hK' K' ho hg4 hat hgr l0 lf0 l0b lf0b
              try simp only [Act.put, List.setIfInBounds_toArray, List.set_cons_zero, List.set_cons_succ]
              refine wpAnyH_ready (rs := [7]) (by kernel_rfl) (by simp) ?_
              refine AllReadyH.cons rfl (fun K' hK' => ?_) AllReadyH.nil
              go_simp
              refine hK' _ _ (HSI.out _ (HSP.out _ _ HP5.out)) (fun hHeld => ?_)
              clear hK' K'
              try simp only [Act.put]
              refine wpAnyH_done (by kernel_rfl) ?_ _
              refine NoPanic.normal ?_
              obtain ⟨W5, hW5⟩ : ∃ W5, W5 = w4.setCell ⟨nb, 0, none⟩ (.slice A4 (now.length + 1) c4) := ⟨_, rfl⟩
              rw [← hW5] at HP5 ⊢
              clear hW5 l4 lf4 HSG HSP HSI HSO HG0 HG1 HP0 HPB HP
              obtain ⟨lo', _⟩ := cells1 HP5.out.co
              have lo : W5.cell? ⟨ob, 0, none⟩ = some (.func (.func 70) #[] #[.pointer (some ⟨nb, 0, none⟩), .pointer (some ⟨bb, 0, none⟩), .pointer (some ⟨ab, 0, none⟩), .pointer (some ⟨ob, 0, none⟩)]) := lo'
              clear lo'
              have eg := enters70
              go_wp2_with (go_at_fn 70; go_must (refine (HREC.out _ _ HP5.out).mono ?_; rintro e w7 ⟨rfl, vn7, vb7, h7⟩; obtain ⟨A7, c7, hv7, hc7, _⟩ := Kd.R_reads h7.rn; rw [show (now ++ [((g, c), b)]).length = now.length + 1 from by simp] at hv7 hc7; subst hv7; obtain ⟨l7, lf7⟩ := cells1 h7.cn; have HP7 := Aside0.mk h7; clear h7 lo))
              go_roundg (all.length - (k + 1))
              case measure => omega
              case rel => exact ⟨k + 1, _, vb7, Y, by omega, by omega, by omega, by go_num, ⟨HP7.out.cut (m := now.length) (by simp) (by simp)⟩, HNEXT⟩
            · go_simp
              refine hK'.out _ _ (HSI.out _ (HSG.out _ HG1.out)) (fun hHeld => ?_)
              clear hK' K'
              try simp only [Act.put, List.setIfInBounds_toArray, List.set_cons_zero, List.set_cons_succ]
              obtain ⟨WA, hWA⟩ : ∃ WA, WA = wr.drew.alloc (.cells #[.slice (some ⟨g, 0, none⟩) b.length c] 28) := ⟨_, rfl⟩
              change wpAnyH _ _ _ _ _ _ _ _ (wr.drew.alloc (.cells #[.slice (some ⟨g, 0, none⟩) b.length c] 28))
              rw [← hWA] at l0b lf0b HG1 ⊢
              have HWA := Aside0.mk hWA
              clear hWA
              refine wpAnyH_ready (rs := [0]) (by kernel_rfl) (by simp) ?_
              refine AllReadyH.cons rfl (fun K' hK' => ?_) AllReadyH.nil
              go_simp
              refine hK'.out _ _ (HSI.out _ (HSG.out _ HG1.out)) (fun hHeld => ?_)
              rw [HWA.out] at HG1 ⊢
              clear HWA
              clear hK' K'
              try simp only [Act.put, List.setIfInBounds_toArray, List.set_cons_zero, List.set_cons_succ]
              refine wpAnyH_ready (rs := [6]) (by kernel_rfl) (by simp) ?_
              refine AllReadyH.cons rfl (fun K' hK' => ?_) AllReadyH.nil
              refine Kd.R_append_step kR (w0 := wr.drew) B rfl (.tmp 46) (.tmp 51) 53 28 (.slice none 0 0) 24 rfl Try.underlying53 info28 rfl (by decide) (by decide) (.slice A1 now.length c1) now ((g, c), b) [encR ((g, c), b)] (fun _ => True) (fun _ => False) rfl rfl rfl (fun _ hk => hk.elim) (fun _ _ => trivial) HP0.out.rn (Below.refl _ _) HP0.out.sz.1 (by omega) ?_
              intro v4 w4 ho _ hg4 hat
              have hgr := HG0.out.trans hg4
              obtain ⟨l4, lf4⟩ := cells1 ((hg4.block nb (blk_lt HP0.out.cn) (typed_ne HP0.out.rn HP0.out.cn (by decide))).trans HP0.out.cn)
              obtain ⟨A4, c4, hv4, _, _⟩ := Kd.R_reads ho
              rw [show (now ++ [((g, c), b)]).length = now.length + 1 from by simp] at hv4
              subst hv4
              have HP5 := Aside0.mk (HP0.out.store hg4 ho hat fun x hx => by rcases List.mem_append.1 hx with h | h; exact HP.out.ns x h; rw [List.mem_singleton.1 h]; exact HMEM.out)
              refine hK'.out _ _ (HSI.out _ (HSG.out _ hgr)) (fun hHeld => ?_)
              clear hK' K' ho hg4 hat hgr l0 lf0 l0b lf0b
              try simp only [Act.put, List.setIfInBounds_toArray, List.set_cons_zero, List.set_cons_succ]
              refine wpAnyH_ready (rs := [7]) (by kernel_rfl) (by simp) ?_
              refine AllReadyH.cons rfl (fun K' hK' => ?_) AllReadyH.nil
              go_simp
              refine hK' _ _ (HSI.out _ (HSP.out _ _ HP5.out)) (fun hHeld => ?_)
              clear hK' K'
              try simp only [Act.put]
              refine wpAnyH_done (by kernel_rfl) ?_ _
              refine NoPanic.normal ?_
              obtain ⟨W5, hW5⟩ : ∃ W5, W5 = w4.setCell ⟨nb, 0, none⟩ (.slice A4 (now.length + 1) c4) := ⟨_, rfl⟩
              rw [← hW5] at HP5 ⊢
              clear hW5 l4 lf4 HSG HSP HSI HSO HG0 HG1 HP0 HPB HP
              obtain ⟨lo', _⟩ := cells1 HP5.out.co
              have lo : W5.cell? ⟨ob, 0, none⟩ = some (.func (.func 70) #[] #[.pointer (some ⟨nb, 0, none⟩), .pointer (some ⟨bb, 0, none⟩), .pointer (some ⟨ab, 0, none⟩), .pointer (some ⟨ob, 0, none⟩)]) := lo'
              clear lo'
              have eg := enters70
              go_wp2_with (go_at_fn 70; go_must (refine (HREC.out _ _ HP5.out).mono ?_; rintro e w7 ⟨rfl, vn7, vb7, h7⟩; obtain ⟨A7, c7, hv7, hc7, _⟩ := Kd.R_reads h7.rn; rw [show (now ++ [((g, c), b)]).length = now.length + 1 from by simp] at hv7 hc7; subst hv7; obtain ⟨l7, lf7⟩ := cells1 h7.cn; have HP7 := Aside0.mk h7; clear h7 lo))
              go_roundg (all.length - (k + 1))
              case measure => omega
              case rel => exact ⟨k + 1, _, vb7, Y, by omega, by omega, by omega, by go_num, ⟨HP7.out.cut (m := now.length) (by simp) (by simp)⟩, HNEXT⟩
      · have hklz : ¬ (k : Int) < (all.length : Int) := by omega
        obtain rfl : k = all.length := by omega
        have hfin : best' = Z := by rw [← HZ.out, Nat.sub_self]; rfl
        obtain ⟨l2, _⟩ := cells1 HP.out.ca
        go_wp2
        go_end0
        exact ⟨rfl, _, _, by rw [← hfin]; exact HP.out⟩
  · have hltz : ¬ (best.length : Int) < (now.length : Int) := by omega
    have HUP : Aside0 (updL now best = best) := ⟨by unfold updL; rw [if_neg hlt]⟩
    go_enter Try.func70, Try.ntmps70
    go_wp2
    go_step3
    go_wp2
    obtain ⟨W5, hW5⟩ : ∃ W5, W5 = W := ⟨_, rfl⟩
    have HL : Aside0 (∃ vb5, OnSt w0 B nb bb ab ob all (.slice Aa all.length ca) (.slice An now.length cn) vb5 now (updL now best) W5) := ⟨_, by rw [hW5, HUP.out]; exact HO.out⟩
    rw [← hW5]
    clear hW5 l0 l1 lf1 HUP HO HCN
    refine wp_label ?_
    go_wp2
    go_loopg [8, 9, 11, 32] all.length (fun gg v8 _ _ _ wr => ∃ (k : Nat) (vn vb : Value) (best' : List RowT), k ≤ all.length ∧ fr ≤ k ∧ all.length - k ≤ gg ∧ v8 = .int .i64 k ∧ Aside0 (OnSt w0 B nb bb ab ob all (.slice Aa all.length ca) vn vb now best' wr) ∧ Aside0 (lpB keyR all (all.length - k) used now best' = Z))
    case atStart =>
      obtain ⟨vb5, h5⟩ := HL.out
      exact ⟨fr, _, vb5, _, by omega, Nat.le_refl _, by omega, rfl, ⟨h5⟩, ⟨by rw [show all.length - fr = d by omega]; exact HZ.out⟩⟩
    case round =>
      clear HL HZ
      obtain ⟨k, vn, vb, best', hk, hfk, hgg, rfl, HP, HZ⟩ := hrel
      by_cases hkl : k < all.length
      · have hklz : (k : Int) < (all.length : Int) := by omega
        obtain ⟨hca, hca2, hCa⟩ := Kd.R_reads' HP.out.ra
        obtain ⟨ad, had, hx0⟩ := ReadsOf.at_ (Kd.reads_of_C (d := default) hCa) (k : Int) (by omega) (by omega)
        subst had
        rw [Int.toNat_natCast] at hx0
        have hrd : rdOf default all (k : Int) = all.getD k default := by simp [rdOf]
        rw [hrd] at hx0
        have hmem : all.getD k default ∈ all := getD_mem default hkl
        generalize hy : all.getD k default = y at hx0 hmem
        have HY := Aside0.mk hy
        have HMEM := Aside0.mk hmem
        obtain ⟨⟨g, c⟩, b⟩ := y
        have hx : wr.cell? (ad.add k) = some (.slice (some ⟨g, 0, none⟩) b.length c) := hx0
        have hok := HP.out.ok _ hmem
        have HRC : Aside0 (Kd.C (Kd.int .i64) wr (some ⟨g, 0, none⟩) b.length b) := ⟨hok.2.2.2.2⟩
        have hbl : b.length ≤ 1000 := hok.2.1
        have HB60 : Aside0 (∀ i ∈ b, 0 ≤ i ∧ i < 60) := ⟨HBD.out _ hmem⟩
        have HSTEP := Aside0.mk (lp_stepB hkl hy used now best')
        obtain ⟨l2, _⟩ := cells1 HP.out.ca
        clear hca hca2 hCa hx0 hrd hmem hy hok
        go_wp2
        go_loopg [9, 11, 32] b.length (fun g2 v9 _ v32 w2 => ∃ i : Nat, i ≤ b.length ∧ b.length - i ≤ g2 ∧ v32 = .int .i64 i ∧ v9 = .int .i64 ((used ||| setI (b.take i) : Nat) : Int) ∧ disjB used (b.take i) = true ∧ wr = w2)
        case atStart => exact ⟨0, Nat.zero_le _, by omega, rfl, by rw [List.take_zero]; show _ = Value.int .i64 ((used ||| 0 : Nat) : Int); rw [Nat.or_zero], rfl, rfl⟩
        case round =>
          obtain ⟨i, hi, hg2, rfl, rfl, hdj, rfl⟩ := hrel
          by_cases hil : i < b.length
          · have hilz : (i : Int) < (b.length : Int) := by omega
            obtain ⟨ad3, hr3, hx3⟩ := Kd.at_int HRC.out (i : Int) (by omega) (by omega)
            cases hr3
            rw [Int.toNat_natCast] at hx3
            have hrd3 : rd b (i : Int) = b.getD i 0 := by simp [rd]
            have hin := HB60.out _ (getD_mem 0 hil)
            obtain ⟨a, ha⟩ := Int.eq_ofNat_of_zero_le hin.1
            rw [hrd3, ha, show (⟨g, 0, none⟩ : Addr).add i = ⟨g, i, none⟩ by rw [add_at, Nat.zero_add]] at hx3
            have ha60 : a < 60 := by omega
            have hset := take_keyB hil ha
            have hd1 := disj_take (used := used) hil hdj
            rw [ha, Int.toNat_natCast] at hd1
            have HD1 := Aside0.mk hd1
            have hd2 := disj_no (used := used) hil
            rw [ha, Int.toNat_natCast] at hd2
            have HD2 := Aside0.mk hd2
            have HSET := Aside0.mk hset
            have hm60 := setIn_ltB HB60.out i
            have hbit := bit_ask (y := used) (k := a) (by omega) (by omega)
            clear hrd3 hin ha hset hd1 hd2 hdj
            cases htb : used.testBit a with
            | true =>
              rw [htb] at hbit
              have HNO := Aside0.mk (HD2.out htb)
              go_wp2
              go_roundg (all.length - (k + 1))
              case measure => omega
              case rel => exact ⟨k + 1, vn, vb, best', by omega, by omega, by omega, by go_num, HP, ⟨by rw [← HZ.out, HSTEP.out, HNO.out]; rfl⟩⟩
            | false =>
              rw [htb] at hbit HD1
              generalize hs : setI (b.take i) = m at hm60 HSET ⊢
              have HU := Aside0.mk (or_lt hu hm60)
              generalize hum : used ||| m = um at HU ⊢
              have HUM := Aside0.mk hum
              clear hum
              go_wp2
              go_roundg (b.length - (i + 1))
              case measure => omega
              case rel => exact ⟨i + 1, by omega, by omega, by go_num, by rw [HSET.out, ← Nat.or_assoc, HUM.out, ← or_two60 HU.out ha60, wrap64_two (by omega)], HD1.out, rfl⟩
          · have hilz : ¬ (i : Int) < (b.length : Int) := by omega
            obtain rfl : i = b.length := by omega
            rw [List.take_length] at hdj ⊢
            have HDJ := Aside0.mk hdj
            have hm60 := setIn_ltB HB60.out b.length
            rw [List.take_length] at hm60
            generalize hs : setI b = m at hm60 ⊢
            have HM := Aside0.mk hs
            clear hs hdj
            generalize hum : used ||| m = um
            have HUM := Aside0.mk hum
            have HU := Aside0.mk (show um < 2 ^ 60 by rw [← hum]; exact or_lt hu hm60)
            clear hum hm60
            obtain ⟨A1, c1, hv1, _, _⟩ := Kd.R_reads HP.out.rn
            subst hv1
            obtain ⟨Y, hYY⟩ : ∃ Y, lpB keyR all (all.length - (k + 1)) um (now ++ [((g, c), b)]) (updL (now ++ [((g, c), b)]) best') = Y := ⟨_, rfl⟩
            have HNEXT : Aside0 (lpB keyR all (all.length - (k + 1)) used now Y = Z) := ⟨by
              have := HSTEP.out
              try dsimp only at this
              rw [HDJ.out, if_pos rfl, HM.out, HUM.out, hYY] at this
              rw [← this]; exact HZ.out⟩
            have HREC : Aside0 (∀ V4 W6, OnSt w0 B nb bb ab ob all (.slice (some ad) all.length ca) V4 vb (now ++ [((g, c), b)]) best' W6 → Calls Try.prog 70 #[.int .i64 ((k : Int) + 1), .int .i64 um, .pointer (some ⟨nb, 0, none⟩), .pointer (some ⟨bb, 0, none⟩), .pointer (some ⟨ab, 0, none⟩), .pointer (some ⟨ob, 0, none⟩)] W6 (OnPost70 w0 B nb bb ab ob all (.slice (some ad) all.length ca) (now ++ [((g, c), b)]) Y)) := ⟨fun V4 W6 h6 => by
              have := HI.out (all.length - (k + 1)) (by omega) (k + 1) um (now ++ [((g, c), b)]) best' V4 vb W6 h6 (by omega) HU.out (by rw [List.length_append, List.length_singleton]; omega)
              rw [hYY, show ((k + 1 : Nat) : Int) = (k : Int) + 1 by omega] at this
              exact this⟩
            clear hYY
            go_wp2
            have HSG : Aside0 (∀ w', wr.grownBy w' (Value.slice A1 now.length c1).ownBlock → w'.cell? ⟨ab, 0, none⟩ = some (.slice (some ad) all.length ca) ∧ w'.cell? (ad.add k) = some (.slice (some ⟨g, 0, none⟩) b.length c)) := ⟨fun w' hg => HP.out.reads hg rfl rfl hkl HY.out⟩
            have HSP : Aside0 (∀ V W6, OnSt w0 B nb bb ab ob all (.slice (some ad) all.length ca) V vb (now ++ [((g, c), b)]) best' W6 → W6.cell? ⟨ab, 0, none⟩ = some (.slice (some ad) all.length ca) ∧ W6.cell? (ad.add k) = some (.slice (some ⟨g, 0, none⟩) b.length c)) := ⟨fun V W6 h => h.reads (World.grownBy.refl W6 _) rfl rfl hkl HY.out⟩
            obtain ⟨SS, hSS⟩ : ∃ SS : World → Prop, SS = (fun w' => w'.cell? ⟨ab, 0, none⟩ = some (.slice (some ad) all.length ca) ∧ w'.cell? (ad.add k) = some (.slice (some ⟨g, 0, none⟩) b.length c)) := ⟨_, rfl⟩
            have HSI : Aside0 (∀ w', (w'.cell? ⟨ab, 0, none⟩ = some (.slice (some ad) all.length ca) ∧ w'.cell? (ad.add k) = some (.slice (some ⟨g, 0, none⟩) b.length c)) → SS w') := ⟨fun w' h => by rw [hSS]; exact h⟩
            have HSO : Aside0 (∀ w', SS w' → w'.cell? ⟨ab, 0, none⟩ = some (.slice (some ad) all.length ca) ∧ w'.cell? (ad.add k) = some (.slice (some ⟨g, 0, none⟩) b.length c)) := ⟨fun w' h => by rw [hSS] at h; exact h⟩
            have HG0 : Aside0 (wr.grownBy wr.drew (Value.slice A1 now.length c1).ownBlock) := ⟨⟨rfl, rfl, rfl, Nat.le_refl _, fun _ _ _ => rfl⟩⟩
            have HG1 : Aside0 (wr.grownBy (wr.drew.alloc (.cells #[.slice (some ⟨g, 0, none⟩) b.length c] 28)) (Value.slice A1 now.length c1).ownBlock) := ⟨HG0.out.trans (World.grownBy_alloc _ _ _)⟩
            have HP0 : Aside0 (OnSt w0 B nb bb ab ob all (.slice (some ad) all.length ca) (.slice A1 now.length c1) vb now best' wr.drew) := ⟨HP.out.next (below_drew (Below.refl _ _))⟩
            clear hSS l2 hx
            refine wp_region_noPanic ?_
            refine wp_region_held_drew (S := SS) (by kernel_rfl) (HSI.out _ (HSG.out _ HG0.out)) (fun hHeld => ?_)
            refine H_on 1 47 ?vb1 rfl rfl (by kernel_rfl) (by kernel_rfl) (by kernel_rfl) (by rfl) ?hb1 hHeld ?rb1
            case hb1 => (intro w hSw; obtain ⟨s0, s1⟩ := HSO.out w hSw; go_simp <;> with_reducible rfl)
            simp only [Act.put, List.setIfInBounds_toArray, List.set_cons_zero, List.set_cons_succ]
            refine H_on 2 48 ?vb2 rfl rfl (by kernel_rfl) (by kernel_rfl) (by kernel_rfl) (by rfl) ?hb2 hHeld ?rb2
            case hb2 => (intro w hSw; obtain ⟨s0, s1⟩ := HSO.out w hSw; go_simp <;> with_reducible rfl)
            simp only [Act.put, List.setIfInBounds_toArray, List.set_cons_zero, List.set_cons_succ]
            refine H_on 3 49 ?vb3 rfl rfl (by kernel_rfl) (by kernel_rfl) (by kernel_rfl) (by rfl) ?hb3 hHeld ?rb3
            case hb3 => (intro w hSw; obtain ⟨s0, s1⟩ := HSO.out w hSw; go_simp <;> with_reducible rfl)
            simp only [Act.put, List.setIfInBounds_toArray, List.set_cons_zero, List.set_cons_succ]
            refine H_on 4 50 ?vb4 rfl rfl (by kernel_rfl) (by kernel_rfl) (by kernel_rfl) (by rfl) ?hb4 hHeld ?rb4
            case hb4 => (intro w hSw; obtain ⟨s0, s1⟩ := HSO.out w hSw; go_simp <;> with_reducible rfl)
            simp only [Act.put, List.setIfInBounds_toArray, List.set_cons_zero, List.set_cons_succ]
            obtain ⟨l0, lf0⟩ := cells1 HP0.out.cn
            have HPB := Aside0.mk (HP0.out.next (below_alloc (Below.refl _ _) (.cells #[.slice (some ⟨g, 0, none⟩) b.length c] 28)))
            obtain ⟨l0b, lf0b⟩ := cells1 HPB.out.cn
            refine wpAnyH_ready (rs := [0, 5]) (by kernel_rfl) (by simp) ?_
            refine AllReadyH.cons rfl (fun K' hK' => ?_) (AllReadyH.cons rfl (fun K' hK' => ?_) AllReadyH.nil)
            · go_simp
              refine hK'.out _ _ (HSI.out _ (HSG.out _ HG0.out)) (fun hHeld => ?_)
              clear hK' K'
              try simp only [Act.put, List.setIfInBounds_toArray, List.set_cons_zero, List.set_cons_succ]
              refine wpAnyH_ready (rs := [5]) (by kernel_rfl) (by simp) ?_
              refine AllReadyH.cons rfl (fun K' hK' => ?_) AllReadyH.nil
              go_simp
              refine hK'.out _ _ (HSI.out _ (HSG.out _ HG1.out)) (fun hHeld => ?_)
              clear hK' K'
              try simp only [Act.put, List.setIfInBounds_toArray, List.set_cons_zero, List.set_cons_succ]
              refine wpAnyH_ready (rs := [6]) (by kernel_rfl) (by simp) ?_
              refine AllReadyH.cons rfl (fun K' hK' => ?_) AllReadyH.nil
              refine Kd.R_append_step kR (w0 := wr.drew) B rfl (.tmp 46) (.tmp 51) 53 28 (.slice none 0 0) 24 rfl Try.underlying53 info28 rfl (by decide) (by decide) (.slice A1 now.length c1) now ((g, c), b) [encR ((g, c), b)] (fun _ => True) (fun _ => False) rfl rfl rfl (fun _ hk => hk.elim) (fun _ _ => trivial) HP0.out.rn (Below.refl _ _) HP0.out.sz.1 (by omega) ?_
              intro v4 w4 ho _ hg4 hat
              have hgr := HG0.out.trans hg4
              obtain ⟨l4, lf4⟩ := cells1 ((hg4.block nb (blk_lt HP0.out.cn) (typed_ne HP0.out.rn HP0.out.cn (by decide))).trans HP0.out.cn)
              obtain ⟨A4, c4, hv4, _, _⟩ := Kd.R_reads ho
              rw [show (now ++ [((g, c), b)]).length = now.length + 1 from by simp] at hv4
              subst hv4
              have HP5 := Aside0.mk (HP0.out.store hg4 ho hat fun x hx => by rcases List.mem_append.1 hx with h | h; exact HP.out.ns x h; rw [List.mem_singleton.1 h]; exact HMEM.out)
              refine hK'.out _ _ (HSI.out _ (HSG.out _ hgr)) (fun hHeld => ?_)
              clear hK' K' ho hg4 hat hgr l0 lf0 l0b lf0b
              try simp only [Act.put, List.setIfInBounds_toArray, List.set_cons_zero, List.set_cons_succ]
              refine wpAnyH_ready (rs := [7]) (by kernel_rfl) (by simp) ?_
              refine AllReadyH.cons rfl (fun K' hK' => ?_) AllReadyH.nil
              go_simp
              refine hK' _ _ (HSI.out _ (HSP.out _ _ HP5.out)) (fun hHeld => ?_)
              clear hK' K'
              try simp only [Act.put]
              refine wpAnyH_done (by kernel_rfl) ?_ _
              refine NoPanic.normal ?_
              obtain ⟨W5, hW5⟩ : ∃ W5, W5 = w4.setCell ⟨nb, 0, none⟩ (.slice A4 (now.length + 1) c4) := ⟨_, rfl⟩
              rw [← hW5] at HP5 ⊢
              clear hW5 l4 lf4 HSG HSP HSI HSO HG0 HG1 HP0 HPB HP
              obtain ⟨lo', _⟩ := cells1 HP5.out.co
              have lo : W5.cell? ⟨ob, 0, none⟩ = some (.func (.func 70) #[] #[.pointer (some ⟨nb, 0, none⟩), .pointer (some ⟨bb, 0, none⟩), .pointer (some ⟨ab, 0, none⟩), .pointer (some ⟨ob, 0, none⟩)]) := lo'
              clear lo'
              have eg := enters70
              go_wp2_with (go_at_fn 70; go_must (refine (HREC.out _ _ HP5.out).mono ?_; rintro e w7 ⟨rfl, vn7, vb7, h7⟩; obtain ⟨A7, c7, hv7, hc7, _⟩ := Kd.R_reads h7.rn; rw [show (now ++ [((g, c), b)]).length = now.length + 1 from by simp] at hv7 hc7; subst hv7; obtain ⟨l7, lf7⟩ := cells1 h7.cn; have HP7 := Aside0.mk h7; clear h7 lo))
              go_roundg (all.length - (k + 1))
              case measure => omega
              case rel => exact ⟨k + 1, _, vb7, Y, by omega, by omega, by omega, by go_num, ⟨HP7.out.cut (m := now.length) (by simp) (by simp)⟩, HNEXT⟩
            · go_simp
              refine hK'.out _ _ (HSI.out _ (HSG.out _ HG1.out)) (fun hHeld => ?_)
              clear hK' K'
              try simp only [Act.put, List.setIfInBounds_toArray, List.set_cons_zero, List.set_cons_succ]
              obtain ⟨WA, hWA⟩ : ∃ WA, WA = wr.drew.alloc (.cells #[.slice (some ⟨g, 0, none⟩) b.length c] 28) := ⟨_, rfl⟩
              change wpAnyH _ _ _ _ _ _ _ _ (wr.drew.alloc (.cells #[.slice (some ⟨g, 0, none⟩) b.length c] 28))
              rw [← hWA] at l0b lf0b HG1 ⊢
              have HWA := Aside0.mk hWA
              clear hWA
              refine wpAnyH_ready (rs := [0]) (by kernel_rfl) (by simp) ?_
              refine AllReadyH.cons rfl (fun K' hK' => ?_) AllReadyH.nil
              go_simp
              refine hK'.out _ _ (HSI.out _ (HSG.out _ HG1.out)) (fun hHeld => ?_)
              rw [HWA.out] at HG1 ⊢
              clear HWA
              clear hK' K'
              try simp only [Act.put, List.setIfInBounds_toArray, List.set_cons_zero, List.set_cons_succ]
              refine wpAnyH_ready (rs := [6]) (by kernel_rfl) (by simp) ?_
              refine AllReadyH.cons rfl (fun K' hK' => ?_) AllReadyH.nil
              refine Kd.R_append_step kR (w0 := wr.drew) B rfl (.tmp 46) (.tmp 51) 53 28 (.slice none 0 0) 24 rfl Try.underlying53 info28 rfl (by decide) (by decide) (.slice A1 now.length c1) now ((g, c), b) [encR ((g, c), b)] (fun _ => True) (fun _ => False) rfl rfl rfl (fun _ hk => hk.elim) (fun _ _ => trivial) HP0.out.rn (Below.refl _ _) HP0.out.sz.1 (by omega) ?_
              intro v4 w4 ho _ hg4 hat
              have hgr := HG0.out.trans hg4
              obtain ⟨l4, lf4⟩ := cells1 ((hg4.block nb (blk_lt HP0.out.cn) (typed_ne HP0.out.rn HP0.out.cn (by decide))).trans HP0.out.cn)
              obtain ⟨A4, c4, hv4, _, _⟩ := Kd.R_reads ho
              rw [show (now ++ [((g, c), b)]).length = now.length + 1 from by simp] at hv4
              subst hv4
              have HP5 := Aside0.mk (HP0.out.store hg4 ho hat fun x hx => by rcases List.mem_append.1 hx with h | h; exact HP.out.ns x h; rw [List.mem_singleton.1 h]; exact HMEM.out)
              refine hK'.out _ _ (HSI.out _ (HSG.out _ hgr)) (fun hHeld => ?_)
              clear hK' K' ho hg4 hat hgr l0 lf0 l0b lf0b
              try simp only [Act.put, List.setIfInBounds_toArray, List.set_cons_zero, List.set_cons_succ]
              refine wpAnyH_ready (rs := [7]) (by kernel_rfl) (by simp) ?_
              refine AllReadyH.cons rfl (fun K' hK' => ?_) AllReadyH.nil
              go_simp
              refine hK' _ _ (HSI.out _ (HSP.out _ _ HP5.out)) (fun hHeld => ?_)
              clear hK' K'
              try simp only [Act.put]
              refine wpAnyH_done (by kernel_rfl) ?_ _
              refine NoPanic.normal ?_
              obtain ⟨W5, hW5⟩ : ∃ W5, W5 = w4.setCell ⟨nb, 0, none⟩ (.slice A4 (now.length + 1) c4) := ⟨_, rfl⟩
              rw [← hW5] at HP5 ⊢
              clear hW5 l4 lf4 HSG HSP HSI HSO HG0 HG1 HP0 HPB HP
              obtain ⟨lo', _⟩ := cells1 HP5.out.co
              have lo : W5.cell? ⟨ob, 0, none⟩ = some (.func (.func 70) #[] #[.pointer (some ⟨nb, 0, none⟩), .pointer (some ⟨bb, 0, none⟩), .pointer (some ⟨ab, 0, none⟩), .pointer (some ⟨ob, 0, none⟩)]) := lo'
              clear lo'
              have eg := enters70
              go_wp2_with (go_at_fn 70; go_must (refine (HREC.out _ _ HP5.out).mono ?_; rintro e w7 ⟨rfl, vn7, vb7, h7⟩; obtain ⟨A7, c7, hv7, hc7, _⟩ := Kd.R_reads h7.rn; rw [show (now ++ [((g, c), b)]).length = now.length + 1 from by simp] at hv7 hc7; subst hv7; obtain ⟨l7, lf7⟩ := cells1 h7.cn; have HP7 := Aside0.mk h7; clear h7 lo))
              go_roundg (all.length - (k + 1))
              case measure => omega
              case rel => exact ⟨k + 1, _, vb7, Y, by omega, by omega, by omega, by go_num, ⟨HP7.out.cut (m := now.length) (by simp) (by simp)⟩, HNEXT⟩
      · have hklz : ¬ (k : Int) < (all.length : Int) := by omega
        obtain rfl : k = all.length := by omega
        have hfin : best' = Z := by rw [← HZ.out, Nat.sub_self]; rfl
        obtain ⟨l2, _⟩ := cells1 HP.out.ca
        go_wp2
        go_end0
        exact ⟨rfl, _, _, by rw [← hfin]; exact HP.out⟩
theorem on70_all (hal : all.length ≤ 100000) (hbd : ∀ x ∈ all, ∀ i ∈ x.2, 0 ≤ i ∧ i < 60) (d : Nat) : OnSaid70 w0 B nb bb ab ob all vall d := Nat.strongRecOn d fun d ih => on70_step hal hbd d ih
end
end Go.Proofs.Ytaegldcifhgnmaa.A

/- Apart: the map's lists are collected: what the memory holds. -/
namespace Go.Proofs.Ytaegldcifhgnmaa.A
open Go.RowKit Go.Proofs.YtaegldcifhgnmaaW.PrintWords Go.Proofs.YtaegldcifhgnmaaW.PrintMore
theorem first_start (W : World) : FirstIs (W.heap.size + 1) W.heap.size (fun _ => none) (fun k => k = W.heap.size ∨ k = W.heap.size + 1) ((W.alloc (.map #[] 0)).alloc (.cells #[.map (some W.heap.size)] 76)) := by
  have h1 := heap_alloc_new (W.alloc (.map #[] 0)) (.cells #[.map (some W.heap.size)] 76)
  rw [show (W.alloc (.map #[] 0)).heap.size = W.heap.size + 1 by simp] at h1
  refine ⟨h1, .inr rfl, .inl rfl, by omega, fun k hk => by rcases hk with rfl | rfl <;> simp <;> omega, .map [], ?_, fun kl h => (by cases h), fun k b h => (by cases h)⟩
  exact owns_tight (World.ownsMap.alloc (World.ownsMap_made W Try.prog 3 RV) _)

structure CollSt (W0 : World) (mb n : Nat) (D : DU) (f : Nat → Option (List Int)) (left : Lit → Bool) (cnt : Nat) (v : Value) (ks : List Nat) (xs : List RowT) (W : World) : Prop where
  bl : Below W0.heap.size W0 W
  cx : W.heap[W0.heap.size]? = some (.cells #[v] 53 (0, 0))
  rx : kR.R 28 W (W0.heap.size + 1) (fun _ => True) v xs
  rg : W.ranges Try.prog 3 RV mb (W0.heap.size + 1) n D left cnt
  lt : mb < W0.heap.size
  lh : ∀ kl, left kl = true → Maps.has D kl = true
  nd : ks.Nodup
  me : ks.map f = xs.map (fun x => some x.2)
  kl : ∀ k ∈ ks, left (.int .i64 (k : Int)) = false
  al : ∀ k, f k ≠ none → left (.int .i64 (k : Int)) = false → k ∈ ks
  ok : ∀ x ∈ xs, RowOk W x
  ns : ∀ x ∈ xs, x.1.1 < W0.heap.size

section
variable {W0 W W1 : World} {mb n cnt cnt' : Nat} {D : DU} {f : Nat → Option (List Int)} {left : Lit → Bool} {v v1 : Value} {ks : List Nat} {xs : List RowT}
theorem iter_ne {e : Nat} {r : Nat} {base : Nat} (hr : W.ranges Try.prog 3 RV mb r n D left cnt) (h : kR.R e W base (fun _ => True) v xs) : some r ≠ v.ownBlock := fun e1 => by
  obtain ⟨cs', h1⟩ := Kd.R_typed h r e1.symm
  obtain ⟨es, clock, since, seen, c0, h2⟩ := hr
  have h3 : W.heap[r]? = some (.mapIter (some mb) since seen c0) := by simp_all
  rw [h3] at h1
  cases h1
theorem CollSt.big (h : CollSt W0 mb n D f left cnt v ks xs W) : W0.heap.size + 1 < W.heap.size := h.rg.lt
/-- An entry has come. -/
theorem CollSt.came (h : CollSt W0 mb n D f left cnt v ks xs W) {kl : Lit} (hg : W.grownBy W1 (some (W0.heap.size + 1))) (hrg : W1.ranges Try.prog 3 RV mb (W0.heap.size + 1) n D (fun z => left z && !z.sameKey kl) cnt') :
    Below W0.heap.size W0 W1 ∧ W1.heap[W0.heap.size]? = some (.cells #[v] 53 (0, 0)) ∧ kR.R 28 W1 (W0.heap.size + 1) (fun _ => True) v xs ∧ (∀ x ∈ xs, RowOk W1 x) ∧ W0.heap.size + 1 < W1.heap.size := by
  have hb := h.big
  have hk : ∀ k, k < W.heap.size → k ≠ W0.heap.size + 1 → W1.heap[k]? = W.heap[k]? := fun k hk hne => hg.block k hk fun e => hne (by cases e; rfl)
  refine ⟨⟨hg.os.trans h.bl.os, hg.tape.trans h.bl.tape, hg.output.trans h.bl.output, Nat.le_trans h.bl.size hg.size, fun k hk' => (hk k (by omega) (by omega)).trans (h.bl.block k hk')⟩, (hk _ (by omega) (by omega)).trans h.cx, R_moved h.rx fun k hk' => hk k (Kd.R_lt h.rx k hk') fun e => iter_ne h.rg h.rx (by rw [hk', e]), fun x hx => (h.ok x hx).move (hk _ (h.ok x hx).lt (by have := h.ns x hx; omega)), hrg.lt⟩
/-- It is put behind the others. -/
theorem CollSt.put (h : CollSt W0 mb n D f left cnt v ks xs W) {k : Nat} (hlk : left (.int .i64 (k : Int)) = true) {W4 : World} {y : RowT} (hfk : f k = some y.2) (hy : RowOk W0 y)
    (hg : W.grownBy W1 (some (W0.heap.size + 1))) (hrg : W1.ranges Try.prog 3 RV mb (W0.heap.size + 1) n D (fun z => left z && !z.sameKey (.int .i64 (k : Int))) cnt')
    (hg4 : W1.grownBy W4 v.ownBlock) (hr4 : kR.R 28 W4 (W0.heap.size + 1) (fun _ => True) v1 (xs ++ [y])) :
    CollSt W0 mb n D f (fun z => left z && !z.sameKey (.int .i64 (k : Int))) cnt' v1 (ks ++ [k]) (xs ++ [y]) (W4.setCell ⟨W0.heap.size, 0, none⟩ v1) := by
  obtain ⟨hb1, hc1, hr1, hok1, hbig⟩ := h.came hg hrg
  have hp := setCell_parts W4 ⟨W0.heap.size, 0, none⟩ v1
  have hcell : ∀ j, j < W1.heap.size → some j ≠ v.ownBlock → j ≠ W0.heap.size → (W4.setCell ⟨W0.heap.size, 0, none⟩ v1).heap[j]? = W1.heap[j]? := fun j hj h1 h2 => (Below.heap_setCell _ _ _ _ h2).trans (hg4.block j hj h1)
  have hlow : ∀ j, j ≤ W0.heap.size → some j ≠ v.ownBlock := fun j hj e => by have := Kd.R_base hr1 j e.symm; omega
  have hb2 : Below W0.heap.size W0 (W4.setCell ⟨W0.heap.size, 0, none⟩ v1) := ⟨hp.1.trans (hg4.os.trans hb1.os), hp.2.1.trans (hg4.tape.trans hb1.tape), hp.2.2.1.trans (hg4.output.trans hb1.output), by rw [hp.2.2.2]; exact Nat.le_trans hb1.size hg4.size, fun j hj => (hcell j (by omega) (hlow j (by omega)) (by omega)).trans (hb1.block j hj)⟩
  have hne1 := iter_ne hrg hr1
  refine ⟨hb2, blk_set ((hg4.block _ (by omega) (hlow _ (Nat.le_refl _))).trans hc1) 0 _, R_moved hr4 fun j hj => Below.heap_setCell _ _ _ _ fun e => ?_, ?_, h.lt, fun kl hkl => h.lh kl (by simp at hkl; exact hkl.1), ?_, by rw [List.map_append, List.map_append, h.me, List.map_singleton, List.map_singleton, hfk], ?_, ?_, ?_, ?_⟩
  · have := Kd.R_base hr4 j hj
    have e' : j = W0.heap.size := e
    omega
  · have h1 : W4.ranges Try.prog 3 RV mb (W0.heap.size + 1) n D (fun z => left z && !z.sameKey (.int .i64 (k : Int))) cnt' := hrg.kept hg4 (hlow mb (by have := h.lt; omega)) hne1
    have h2 : W4.grownBy (W4.setCell ⟨W0.heap.size, 0, none⟩ v1) (some W0.heap.size) := ⟨hp.1, hp.2.1, hp.2.2.1, by rw [hp.2.2.2]; exact Nat.le_refl _, fun j _ hj => Below.heap_setCell _ _ _ _ fun e => hj (by rw [show j = W0.heap.size from e])⟩
    exact h1.kept h2 (fun e => by have := h.lt; cases e; omega) (fun e => by injection e with e; omega)
  · refine List.nodup_append.mpr ⟨h.nd, List.nodup_cons.mpr ⟨List.not_mem_nil, List.nodup_nil⟩, fun a ha b hb e => ?_⟩
    rw [List.mem_singleton] at hb
    have := h.kl a ha
    rw [e, hb, hlk] at this
    cases this
  · intro j hj
    rcases List.mem_append.1 hj with hj | hj
    · rw [h.kl j hj, Bool.false_and]
    · rw [List.mem_singleton.1 hj]
      by_cases he : (Lit.int .i64 (k : Int)).sameKey (.int .i64 (k : Int)) = true
      · rw [he]; simp
      · exact absurd (by simp [Lit.sameKey]) he
  · intro j hf hj
    by_cases e : j = k
    · exact List.mem_append.2 (.inr (by rw [e]; exact List.mem_singleton_self k))
    · rw [Maps.sameKey_ne (kl_ne e)] at hj
      exact List.mem_append.2 (.inl (h.al j hf (by simpa using hj)))
  · intro x hx
    rcases List.mem_append.1 hx with hx | hx
    · have hx1 := hok1 x hx
      exact hx1.move (hcell _ hx1.lt (fun e => by have := Kd.R_base hr1 _ e.symm; have := h.ns x hx; omega) (by have := h.ns x hx; omega))
    · rw [List.mem_singleton.1 hx]
      exact hy.move (hb2.block _ hy.lt)
  · intro x hx
    rcases List.mem_append.1 hx with hx | hx
    · exact h.ns x hx
    · rw [List.mem_singleton.1 hx]; exact hy.lt
theorem coll_start {cb : Nat} {S : Nat → Prop} {W5 : World} (h : FirstIs cb mb f S W0) (hD2 : ∀ k b, f k = some b → ∃ g c, k < 2 ^ 60 ∧ Maps.has D (.int .i64 (k : Int)) = true ∧ (∀ z, D.atKey (.int .i64 (k : Int)) z = hdD g b.length c) ∧ b ≠ [] ∧ b.length ≤ 1000 ∧ b.length ≤ c ∧ S g ∧ RowAt W0 g b)
    (hrg : W5.ranges Try.prog 3 RV mb (W0.alloc (.cells #[.slice none 0 0] 53)).heap.size n D (Maps.has D) cnt) (hg : (W0.alloc (.cells #[.slice none 0 0] 53)).grownBy W5 none) :
    CollSt W0 mb n D f (Maps.has D) cnt (.slice none 0 0) [] [] W5 := by
  rw [show (W0.alloc (.cells #[.slice none 0 0] 53)).heap.size = W0.heap.size + 1 by simp] at hrg
  have hb : Below W0.heap.size W0 W5 := by
    have h1 : Below W0.heap.size W0 (W0.alloc (.cells #[.slice none 0 0] 53)) := below_alloc (Below.refl _ _) _
    exact h1.trans ⟨hg.os, hg.tape, hg.output, hg.size, fun j hj => hg.block j (by simp; omega) (by simp)⟩
  refine ⟨hb, (hg.block W0.heap.size (by simp) (by simp)).trans (heap_alloc_new _ _), Kd.R_nil _ _ _ _ _, hrg, h.lt mb h.smb, fun _ h => h, List.nodup_nil, rfl, fun _ h => (by cases h), fun k hk hl => ?_, fun _ h => (by cases h), fun _ h => (by cases h)⟩
  obtain ⟨b, hb⟩ := Option.ne_none_iff_exists'.mp hk
  obtain ⟨_, _, _, h2, _⟩ := hD2 k b hb
  rw [h2] at hl
  cases hl
theorem CollSt.few (h : CollSt W0 mb n D f left cnt v ks xs W) {m : Nat} (hf : ∀ k, f k ≠ none → k < m) : xs.length ≤ m := by
  have h1 := nodup_short m ks h.nd fun k hk => hf k fun e => by
    have h2 : f k ∈ ks.map f := List.mem_map_of_mem hk
    rw [h.me, e] at h2
    obtain ⟨x, _, h3⟩ := List.mem_map.1 h2
    cases h3
  have := congrArg List.length h.me
  rw [List.length_map, List.length_map] at this
  omega
theorem CollSt.mem (h : CollSt W0 mb n D f left cnt v ks xs W) {x : RowT} (hx : x ∈ xs) : ∃ k ∈ ks, f k = some x.2 := by
  have h2 : some x.2 ∈ xs.map (fun x : RowT => some x.2) := List.mem_map_of_mem (f := fun x : RowT => some x.2) hx
  rw [← h.me] at h2
  obtain ⟨k, h3, h4⟩ := List.mem_map.1 h2
  exact ⟨k, h3, h4⟩
theorem CollSt.fin (h : CollSt W0 mb n D f left cnt v ks xs W) (hl : ∀ kl, left kl = false) (k : Nat) : k ∈ ks ↔ f k ≠ none := by
  refine ⟨fun hk e => ?_, fun hf => h.al k hf (hl _)⟩
  have h2 : f k ∈ ks.map f := List.mem_map_of_mem hk
  rw [h.me, e] at h2
  obtain ⟨x, _, h3⟩ := List.mem_map.1 h2
  cases h3
/-- Behind the sort. -/
theorem CollSt.sorted (h : CollSt W0 mb n D f left cnt v ks xs W) {W6 : World} {ys : List RowT} (hp : ys.Perm xs) (hg : W.grownBy W6 v.ownBlock) :
    W6.heap[W0.heap.size]? = some (.cells #[v] 53 (0, 0)) ∧ (∀ x ∈ ys, RowOk W6 x) ∧ Below W0.heap.size W0 W6 := by
  have hb := h.big
  have hlow : ∀ j, j ≤ W0.heap.size → some j ≠ v.ownBlock := fun j hj e => by have := Kd.R_base h.rx j e.symm; omega
  refine ⟨(hg.block _ (by omega) (hlow _ (Nat.le_refl _))).trans h.cx, fun x hx => ?_, ⟨hg.os.trans h.bl.os, hg.tape.trans h.bl.tape, hg.output.trans h.bl.output, Nat.le_trans h.bl.size hg.size, fun j hj => (hg.block j (by omega) (hlow j (by omega))).trans (h.bl.block j hj)⟩⟩
  have hx' := hp.mem_iff.1 hx
  exact (h.ok x hx').move (hg.block _ (h.ok x hx').lt (hlow _ (by have := h.ns x hx'; omega)))
/-- What a new entry is. -/
theorem new_entry {S : Nat → Prop} {c : Value} {kl : Lit} {y : DU × List MemPlace} (hD1 : ∀ kl, Maps.has D kl = true → ∃ k : Nat, k < 2 ^ 60 ∧ kl = .int .i64 (k : Int) ∧ f k ≠ none)
    (hD2 : ∀ k b, f k = some b → ∃ g c, k < 2 ^ 60 ∧ Maps.has D (.int .i64 (k : Int)) = true ∧ (∀ z, D.atKey (.int .i64 (k : Int)) z = hdD g b.length c) ∧ b ≠ [] ∧ b.length ≤ 1000 ∧ b.length ≤ c ∧ S g ∧ RowAt W0 g b)
    (hhas : Maps.has D kl = true) (hv : RV c = some y) (hat : ∀ zd, D.atKey kl zd = y.1) : ∃ (k : Nat) (z : RowT), kl = .int .i64 (k : Int) ∧ f k = some z.2 ∧ c = encR z ∧ RowOk W0 z := by
  obtain ⟨k, _, rfl, hf⟩ := hD1 kl hhas
  obtain ⟨b, hb⟩ := Option.ne_none_iff_exists'.mp hf
  obtain ⟨g, c', _, _, a3, a4, a5, a6, _, a8⟩ := hD2 k b hb
  refine ⟨k, ((g, c'), b), rfl, hb, ?_, a4, a5, a6, a8⟩
  obtain ⟨y1, y2⟩ := y
  have h1 := hat .nil
  rw [a3] at h1
  dsimp only at h1
  rw [← h1] at hv
  exact RV_hd hv
theorem on_start {w6 : World} {h0 : Nat} {ys : List RowT} (hc : w6.heap[h0]? = some (.cells #[v] 53 (0, 0))) (hr : kR.R 28 w6 (h0 + 1) (fun _ => True) v ys) (ho : ∀ x ∈ ys, RowOk w6 x) :
    OnSt (((w6.alloc (.cells #[.slice none 0 0] 53)).alloc (.cells #[.slice none 0 0] 53)).alloc (.cells #[onV70 (w6.heap.size + 1) w6.heap.size h0 (w6.heap.size + 1 + 1)] 83)) (h0 + 1) (w6.heap.size + 1) w6.heap.size h0 (w6.heap.size + 1 + 1) ys v (.slice none 0 0) (.slice none 0 0) [] []
      (((w6.alloc (.cells #[.slice none 0 0] 53)).alloc (.cells #[.slice none 0 0] 53)).alloc (.cells #[onV70 (w6.heap.size + 1) w6.heap.size h0 (w6.heap.size + 1 + 1)] 83)) := by
  have h0l := blk_lt hc
  have hb : Below w6.heap.size w6 (((w6.alloc (.cells #[.slice none 0 0] 53)).alloc (.cells #[.slice none 0 0] 53)).alloc (.cells #[onV70 (w6.heap.size + 1) w6.heap.size h0 (w6.heap.size + 1 + 1)] 83)) := below_alloc (below_alloc (below_alloc (Below.refl _ _) _) _) _
  refine ⟨Below.refl _ _, ?_, ?_, (hb.block _ h0l).trans hc, ?_, by omega, ⟨by simp; omega, by simp; omega⟩, Kd.R_nil _ _ _ _ _, Kd.R_nil _ _ _ _ _, Kd.R_below hr hb, fun k e => by simp [Value.ownBlock] at e, fun k _ e => by simp [Value.ownBlock] at e, fun x hx => (ho x hx).below hb, fun _ h => (by cases h), fun _ h => (by cases h)⟩
  · have := heap_alloc_new (w6.alloc (.cells #[.slice none 0 0] 53)) (.cells #[.slice none 0 0] 53)
    rw [show (w6.alloc (.cells #[.slice none 0 0] 53)).heap.size = w6.heap.size + 1 by simp] at this
    exact blk_alloc this _
  · exact blk_alloc (blk_alloc (heap_alloc_new _ _) _) _
  · have := heap_alloc_new ((w6.alloc (.cells #[.slice none 0 0] 53)).alloc (.cells #[.slice none 0 0] 53)) (.cells #[onV70 (w6.heap.size + 1) w6.heap.size h0 (w6.heap.size + 1 + 1)] 83)
    rw [show ((w6.alloc (.cells #[.slice none 0 0] 53)).alloc (.cells #[.slice none 0 0] 53)).heap.size = w6.heap.size + 1 + 1 by simp] at this
    exact this
end
end Go.Proofs.Ytaegldcifhgnmaa.A

/- The law package's own small functions and the reference's Ties, as the kit's print writes them. -/
namespace Go.Proofs.Ytaegldcifhgnmaa.B
open Go.Proofs.Ytaegldcifhgnmaa.A
open Go.RowKit Go.Proofs.YtaegldcifhgnmaaW.PrintWords Go.Proofs.YtaegldcifhgnmaaW.PrintLast Go.Proofs.YtaegldcifhgnmaaW.PrintMore
section
attribute [local go_sem] max2_int min2_int max_two min_two max_three min_three max_four min_four   -- for this text's walks alone
set_option linter.unusedVariables false
set_option linter.unusedSimpArgs false
def errW : Option Int → Value
  | none => .nilIface
  | some c => .iface 0 (.int .i64 c)
theorem errW_none : errW none = .nilIface := rfl
theorem errW_some (c : Int) : errW (some c) = .iface 0 (.int .i64 c) := rfl

/-! ### drovewaylaw09_few: function 16 -/
def drovewaylaw09_few.f (l0 : List (S39)) (l1 : List Int) : Option (Bool) := if (l0.length : Int) ≤ 60 then (some (decide ((l1.length : Int) ≤ 60))) else (some false)
set_option maxHeartbeats 8000000 in
set_option maxRecDepth 100000 in
theorem drovewaylaw09_few.calls (A0 : Option Addr) (c0 : Nat) (l0 : List (S39)) (A1 : Option Addr) (c1 : Nat) (l1 : List Int) (r : Bool) (w : World) (hr0 : Kd.C k39 w A0 l0.length l0) (hc0 : l0.length ≤ c0) (hr1 : Kd.C (Kd.int .i64) w A1 l1.length l1) (hc1 : l1.length ≤ c1) (h : drovewaylaw09_few.f l0 l1 = some r) :
    Calls Try.prog 16 #[.slice A0 l0.length c0, .slice A1 l1.length c1] w fun e w' => e = .returned (.bool r) ∧ Drawn0 w w' := by
  have HR0 := Aside0.mk hr0
  have HC0 := Aside0.mk hc0
  clear hr0 hc0
  have HR1 := Aside0.mk hr1
  have HC1 := Aside0.mk hc1
  clear hr1 hc1
  have H : (if (l0.length : Int) ≤ 60 then (some (decide ((l1.length : Int) ≤ 60))) else (some false)) = some r := h
  clear h
  by_cases c3 : (l0.length : Int) ≤ 60
  · rw [if_pos c3] at H
    have c3b0 : decide ((l0.length : Int) ≤ 60) = true := decide_eq_true c3
    have c3b1 : decide (l0.length ≤ 60) = true := decide_eq_true (by omega)
    clear c3
    obtain rfl := Option.some.inj H
    go_enter Try.func16, Try.ntmps16
    go_wp2
    go_ret
    exact ⟨by first | rfl | (simp; done) | (simp [*]; done), by repeat (first | exact Drawn0.refl _ | apply Drawn0.step)⟩
  · rw [if_neg c3] at H
    have c3b0 : decide ((l0.length : Int) ≤ 60) = false := decide_eq_false c3
    have c3b1 : decide (l0.length ≤ 60) = false := decide_eq_false (by omega)
    clear c3
    obtain rfl := Option.some.inj H
    go_enter Try.func16, Try.ntmps16
    go_wp2
    go_ret
    exact ⟨by first | rfl | (simp; done) | (simp [*]; done), by repeat (first | exact Drawn0.refl _ | apply Drawn0.step)⟩

/-! ### drovewaylaw09_same: function 22 -/
def drovewaylaw09_same.l0 : Nat → List Int → List Int → Int → Option (Bool)
  | 0, _, _, _ => none
  | k + 1, x0, x1, x5 => if x5 < (x0.length : Int) then (if 0 ≤ x5 then (if x5 < (x1.length : Int) then (if (rd x0 x5) = (rd x1 x5) then (drovewaylaw09_same.l0 k x0 x1 (wrap64 (x5 + 1))) else (some false)) else (none)) else (none)) else (some true)
def drovewaylaw09_same.f (k : Nat) (l0 : List Int) (l1 : List Int) : Option (Bool) := if (l0.length : Int) = (l1.length : Int) then (drovewaylaw09_same.l0 k l0 l1 0) else (some false)
set_option maxHeartbeats 8000000 in
set_option maxRecDepth 100000 in
theorem drovewaylaw09_same.calls (k : Nat) (A0 : Option Addr) (c0 : Nat) (l0 : List Int) (A1 : Option Addr) (c1 : Nat) (l1 : List Int) (r : Bool) (w : World) (hr0 : Kd.C (Kd.int .i64) w A0 l0.length l0) (hc0 : l0.length ≤ c0) (hr1 : Kd.C (Kd.int .i64) w A1 l1.length l1) (hc1 : l1.length ≤ c1) (h : drovewaylaw09_same.f k l0 l1 = some r) :
    Calls Try.prog 22 #[.slice A0 l0.length c0, .slice A1 l1.length c1] w fun e w' => e = .returned (.bool r) ∧ Drawn0 w w' := by
  have HR0 := Aside0.mk hr0
  have HC0 := Aside0.mk hc0
  clear hr0 hc0
  have HR1 := Aside0.mk hr1
  have HC1 := Aside0.mk hc1
  clear hr1 hc1
  have H : (if (l0.length : Int) = (l1.length : Int) then (drovewaylaw09_same.l0 k l0 l1 0) else (some false)) = some r := h
  clear h
  by_cases c3 : (l0.length : Int) = (l1.length : Int)
  · rw [if_pos c3] at H
    have c3b0 : ((l0.length : Int) == (l1.length : Int)) = true := beq_iff_eq.mpr c3
    have c3b1 : ((l0.length : Int) != (l1.length : Int)) = false := bne_eq_false_iff_eq.mpr c3
    have c3b2 : (l0.length == l1.length) = true := by first | simpa using c3 | (simp at c3 ⊢; omega)
    clear c3
    have H' := Aside0.mk H
    clear H
    go_enter Try.func22, Try.ntmps22
    go_wp2
    repeat (go_quiet (fail); try go_wp2)
    go_loopg [5] k (fun kq v5 w' => ∃ (x5_1 : Int), v5 = .int .i64 x5_1 ∧ Aside0 (drovewaylaw09_same.l0 kq l0 l1 x5_1 = some r) ∧ Aside0 (kq ≤ k) ∧ Drawn0 w w')
    case atStart => exact ⟨(0), (by first | rfl | (simp; done) | (simp [*]; done)), H', ⟨Nat.le_refl _⟩, by repeat (first | exact Drawn0.refl _ | apply Drawn0.step)⟩
    case round =>
      clear H'
      try clear c1
      try clear c2
      try clear p2
      try clear c3
      try clear c3b0
      try clear c3b1
      try clear c3b2
      obtain ⟨x5_1, rfl, HA, HK1, ⟨m1, rfl⟩⟩ := hrel
      cases gk with
      | zero => exact absurd HA.out (by simp [drovewaylaw09_same.l0])
      | succ k1 =>
        have H := HA.out
        clear HA
        simp only [drovewaylaw09_same.l0] at H
        by_cases c4 : x5_1 < (l0.length : Int)
        · rw [if_pos c4] at H
          have c4b0 : decide (x5_1 < (l0.length : Int)) = true := decide_eq_true c4
          clear c4
          by_cases c5 : 0 ≤ x5_1
          · rw [if_pos c5] at H
            have c5b0 : decide (0 ≤ x5_1) = true := decide_eq_true c5
            clear c5
            by_cases c6 : x5_1 < (l1.length : Int)
            · rw [if_pos c6] at H
              have c6b0 : decide (x5_1 < (l1.length : Int)) = true := decide_eq_true c6
              clear c6
              by_cases c7 : (rd l0 x5_1) = (rd l1 x5_1)
              · rw [if_pos c7] at H
                have c7b0 : ((rd l0 x5_1) == (rd l1 x5_1)) = true := beq_iff_eq.mpr c7
                have c7b1 : ((rd l0 x5_1) != (rd l1 x5_1)) = false := bne_eq_false_iff_eq.mpr c7
                clear c7
                have H' := Aside0.mk H
                clear H
                have p101 : 0 ≤ (x5_1 : Int) := of_decide_eq_true (by first | (with_reducible assumption) | assumption)
                have q101 : x5_1 < (l0.length : Int) := of_decide_eq_true (by first | (with_reducible assumption) | assumption)
                obtain ⟨ad101, e101, hx101_0⟩ := Kd.at_int HR0.out x5_1 p101 q101
                cases e101
                replace p101 := eq_true p101
                replace q101 := eq_true q101
                have p102 : 0 ≤ (x5_1 : Int) := of_decide_eq_true (by first | (with_reducible assumption) | assumption)
                have q102 : x5_1 < (l1.length : Int) := of_decide_eq_true (by first | (with_reducible assumption) | assumption)
                obtain ⟨ad102, e102, hx102_0⟩ := Kd.at_int HR1.out x5_1 p102 q102
                cases e102
                replace p102 := eq_true p102
                replace q102 := eq_true q102
                go_wp2
                repeat (go_quiet (fail); try go_wp2)
                go_roundg k1
                case measure => have := HK1.out; omega
                case rel => exact ⟨(wrap64 (x5_1 + 1)), (by first | rfl | (simp; done) | (simp [*]; done)), H', ⟨by have := HK1.out; omega⟩, by repeat (first | exact Drawn0.refl _ | apply Drawn0.step)⟩
              · rw [if_neg c7] at H
                have c7b0 : ((rd l0 x5_1) == (rd l1 x5_1)) = false := beq_eq_false_iff_ne.mpr c7
                have c7b1 : ((rd l0 x5_1) != (rd l1 x5_1)) = true := bne_iff_ne.mpr c7
                obtain rfl := Option.some.inj H
                have p101 : 0 ≤ (x5_1 : Int) := of_decide_eq_true (by first | (with_reducible assumption) | assumption)
                have q101 : x5_1 < (l0.length : Int) := of_decide_eq_true (by first | (with_reducible assumption) | assumption)
                obtain ⟨ad101, e101, hx101_0⟩ := Kd.at_int HR0.out x5_1 p101 q101
                cases e101
                replace p101 := eq_true p101
                replace q101 := eq_true q101
                have p102 : 0 ≤ (x5_1 : Int) := of_decide_eq_true (by first | (with_reducible assumption) | assumption)
                have q102 : x5_1 < (l1.length : Int) := of_decide_eq_true (by first | (with_reducible assumption) | assumption)
                obtain ⟨ad102, e102, hx102_0⟩ := Kd.at_int HR1.out x5_1 p102 q102
                cases e102
                replace p102 := eq_true p102
                replace q102 := eq_true q102
                go_wp2
                repeat (go_quiet (fail); try go_wp2)
                go_ret
                exact ⟨by first | rfl | (simp; done) | (simp [*]; done), by repeat (first | exact Drawn0.refl _ | apply Drawn0.step)⟩
            · rw [if_neg c6] at H
              exact absurd H (by simp)
          · rw [if_neg c5] at H
            exact absurd H (by simp)
        · rw [if_neg c4] at H
          have c4b0 : decide (x5_1 < (l0.length : Int)) = false := decide_eq_false c4
          clear c4
          obtain rfl := Option.some.inj H
          go_wp2
          repeat (go_quiet (fail); try go_wp2)
          go_ret
          exact ⟨by first | rfl | (simp; done) | (simp [*]; done), by repeat (first | exact Drawn0.refl _ | apply Drawn0.step)⟩
  · rw [if_neg c3] at H
    have c3b0 : ((l0.length : Int) == (l1.length : Int)) = false := beq_eq_false_iff_ne.mpr c3
    have c3b1 : ((l0.length : Int) != (l1.length : Int)) = true := bne_iff_ne.mpr c3
    have c3b2 : (l0.length == l1.length) = false := by first | simpa using c3 | (simp at c3 ⊢; omega)
    obtain rfl := Option.some.inj H
    go_enter Try.func22, Try.ntmps22
    go_wp2
    repeat (go_quiet (fail); try go_wp2)
    go_ret
    exact ⟨by first | rfl | (simp; done) | (simp [*]; done), by repeat (first | exact Drawn0.refl _ | apply Drawn0.step)⟩

/-! ### drovewaylaw09_three: function 45 -/
def drovewaylaw09_three.f  : Option ((List (S39))) := some (([(⟨0, 1, true⟩ : S39), (⟨0, 2, true⟩ : S39), (⟨1, 2, true⟩ : S39)] : List (S39)))
set_option maxHeartbeats 8000000 in
set_option maxRecDepth 100000 in
theorem drovewaylaw09_three.calls  (r : List (S39)) (w : World) (h : drovewaylaw09_three.f  = some r) :
    Calls Try.prog 45 #[] w fun e w' => ∃ v0_ : Value, e = .returned (v0_) ∧ Kd.R k39 39 w' w.heap.size (fun _ => True) v0_ r ∧ Below w.heap.size w w' := by
  have hu39 := Try.underlying39
  have HB := Aside0.mk (Below.refl w.heap.size w)
  have H : (some (([(⟨0, 1, true⟩ : S39), (⟨0, 2, true⟩ : S39), (⟨1, 2, true⟩ : S39)] : List (S39)))) = some r := h
  clear h
  obtain ⟨y103, hy103⟩ : ∃ y_ : List (S39), y_ = (([(⟨0, 1, true⟩ : S39), (⟨0, 2, true⟩ : S39), (⟨1, 2, true⟩ : S39)] : List (S39))) := ⟨_, rfl⟩
  replace H : (some y103) = some r := by first | (rw [hy103]; with_reducible exact H) | (have H2_ := (Option.bind_some _ _).symm.trans H; rw [hy103]; with_reducible exact H2_) | (have H2_ := (Option.bind_some _ _).symm.trans H; with_reducible exact H2_) | with_reducible exact H | (rw [hy103]; exact H) | exact H
  have Ny103 := Aside0.mk hy103
  clear hy103
  obtain rfl := Option.some.inj H
  go_enter Try.func45, Try.ntmps45
  go_wp2_with (first | ((with_reducible refine gate_dst (N := 4) rfl ?_); refine Kd.R_lit k39 _ 39 ?hg (N := 4) ?hd (xs := ([(⟨0, 1, true⟩ : S39), (⟨0, 2, true⟩ : S39), (⟨1, 2, true⟩ : S39)] : List (S39))) (inner := [.int .i64 0, .int .i64 1, .bool true, .int .i64 0, .int .i64 2, .bool true, .int .i64 1, .int .i64 2, .bool true]) (ok := fun _ => True) (okp := fun _ => True) ?hr ?hp (fun _ hk => hk) trivial (Below.refl _ _) (Nat.le_refl _) (by simp) ?_; (case hd => rfl); (case hg => rfl); (case hr => first | (go_simp; done) | (go_simp; rfl)); (case hp => exact (Reps.c3 (show Kd.M k39 _ _ _ (⟨0, 1, true⟩ : S39) [.int .i64 0, .int .i64 1, .bool true] from (k39_mkM _ _ _ (⟨0, 1, true⟩ : S39) )) (Reps.c3 (show Kd.M k39 _ _ _ (⟨0, 2, true⟩ : S39) [.int .i64 0, .int .i64 2, .bool true] from (k39_mkM _ _ _ (⟨0, 2, true⟩ : S39) )) (Reps.c3 (show Kd.M k39 _ _ _ (⟨1, 2, true⟩ : S39) [.int .i64 1, .int .i64 2, .bool true] from (k39_mkM _ _ _ (⟨1, 2, true⟩ : S39) )) (Reps.none _ _))))); intro v104 w1 ho2 hb hg_ hnew_; clear hg_ hnew_; (first | rw [← Ny103.out] at ho2 | (simp only [Int.reduceToNat] at ho2; rw [← Ny103.out] at ho2)); have n0_ := Aside0.mk (Kd.R_lower ho2 (below_size (by repeat (first | (with_reducible first | exact HB.out | apply below_alloc | apply pw_below_drewN | apply below_drew1) | exact HB.out)))); have n1_ := Aside0.mk (below_step (by repeat (first | (with_reducible first | exact HB.out | apply below_alloc | apply pw_below_drewN | apply below_drew1) | exact HB.out)) hb); clear HB; have HO105 := n0_; have HB := n1_; clear n0_ n1_; clear hb ho2))
  go_ret
  exact ⟨_, by first | rfl | (simp [errW_none, errW_some] <;> rfl) | (simp [*, errW_none, errW_some] <;> rfl), by (with_reducible repeat (first | apply Kd.R_alloc | apply Kd.R_drewN | apply Kd.R_drew)); exact HO105.out, by repeat (first | (with_reducible first | exact HB.out | apply below_alloc | apply pw_below_drewN | apply below_drew1) | exact HB.out)⟩

/-! ### drovewayref09_Ties: function 24 -/
mutual
def drovewayref09_Ties.j0 : Nat → Int → List (S39) → Bool → Option (Int)
  | 0, _, _, _ => none
  | k + 1, x0, x1, x12 => if x12 = true then (some 2) else (if (x1.length : Int) > 20 then (some 3) else (drovewayref09_Ties.l0 k x0 x1 0))
def drovewayref09_Ties.l0 : Nat → Int → List (S39) → Int → Option (Int)
  | 0, _, _, _ => none
  | k + 1, x0, x1, x5 => if x5 < (x1.length : Int) then (if 0 ≤ x5 then (if ((rd_T39 x1 x5).f0) < 0 then (drovewayref09_Ties.j2 k x0 x1 x5 true) else (if ((rd_T39 x1 x5).f0) ≥ ((rd_T39 x1 x5).f1) then (drovewayref09_Ties.j2 k x0 x1 x5 true) else (drovewayref09_Ties.j2 k x0 x1 x5 (decide (((rd_T39 x1 x5).f1) ≥ x0))))) else (none)) else (some 0)
def drovewayref09_Ties.j2 : Nat → Int → List (S39) → Int → Bool → Option (Int)
  | 0, _, _, _, _ => none
  | k + 1, x0, x1, x5, x49 => if x49 = true then (some 2) else (drovewayref09_Ties.l1 k x0 x1 x5 0)
def drovewayref09_Ties.l1 : Nat → Int → List (S39) → Int → Int → Option (Int)
  | 0, _, _, _, _ => none
  | k + 1, x0, x1, x5, x6 => if x6 < x5 then (if 0 ≤ x6 then (if x6 < (x1.length : Int) then (if 0 ≤ x5 then (if x5 < (x1.length : Int) then (if ((rd_T39 x1 x6).f0) = ((rd_T39 x1 x5).f0) then (if ((rd_T39 x1 x6).f1) = ((rd_T39 x1 x5).f1) then (some 2) else (drovewayref09_Ties.l1 k x0 x1 x5 (wrap64 (x6 + 1)))) else (drovewayref09_Ties.l1 k x0 x1 x5 (wrap64 (x6 + 1)))) else (none)) else (none)) else (none)) else (none)) else (drovewayref09_Ties.l0 k x0 x1 (wrap64 (x5 + 1)))
end
def drovewayref09_Ties.f (k : Nat) (a0 : Int) (l1 : List (S39)) : Option (Int) := if a0 < 1 then (drovewayref09_Ties.j0 k a0 l1 true) else (drovewayref09_Ties.j0 k a0 l1 (decide (a0 > 8)))
set_option maxHeartbeats 8000000 in
set_option maxRecDepth 100000 in
theorem drovewayref09_Ties.calls (k : Nat) (a0 : Int) (A1 : Option Addr) (c1 : Nat) (l1 : List (S39)) (r : Int) (w : World) (hr1 : Kd.C k39 w A1 l1.length l1) (hc1 : l1.length ≤ c1) (h : drovewayref09_Ties.f k a0 l1 = some r) :
    Calls Try.prog 24 #[.int .i64 a0, .slice A1 l1.length c1] w fun e w' => e = .returned (.int .i64 r) ∧ Drawn0 w w' := by
  have HR1 := Aside0.mk hr1
  have HC1 := Aside0.mk hc1
  clear hr1 hc1
  have H : (if a0 < 1 then (drovewayref09_Ties.j0 k a0 l1 true) else (drovewayref09_Ties.j0 k a0 l1 (decide (a0 > 8)))) = some r := h
  clear h
  have HC3 := Aside0.mk H
  clear H
  go_enter Try.func24, Try.ntmps24
  go_upto_region 1 with (fail)
  repeat (go_quiet (fail); go_upto_region 1 with (fail))
  go_cut [12] (fun v12 wc => ∃ (kq : Nat) (x12_2 : Bool), v12 = .bool x12_2 ∧ Aside0 (drovewayref09_Ties.j0 kq a0 l1 x12_2 = some r) ∧ Aside0 (kq ≤ k) ∧ Drawn0 w wc)
  case first =>
    have H := HC3.out
    clear HC3
    by_cases c4 : a0 < 1
    · rw [if_pos c4] at H
      have c4b0 : decide (a0 < 1) = true := decide_eq_true c4
      clear c4
      (first | rw [c4b0] | (simp only [i64_w, i32_w]; rw [c4b0]) | skip)
      have H' := Aside0.mk H
      clear H
      go_wp2
      repeat (go_quiet (fail); try go_wp2)
      go_meet
      case rel => exact ⟨_, (true), (by first | rfl | (simp; done) | (simp [*]; done)), H', ⟨by first | omega | exact Nat.le_refl _⟩, by repeat (first | exact Drawn0.refl _ | apply Drawn0.step)⟩
    · rw [if_neg c4] at H
      have c4b0 : decide (a0 < 1) = false := decide_eq_false c4
      clear c4
      (first | rw [c4b0] | (simp only [i64_w, i32_w]; rw [c4b0]) | skip)
      have H' := Aside0.mk H
      clear H
      go_wp2
      repeat (go_quiet (fail); try go_wp2)
      go_meet
      case rel => exact ⟨_, (decide (a0 > 8)), (by first | rfl | (simp; done) | (simp [*]; done)), H', ⟨by first | omega | exact Nat.le_refl _⟩, by repeat (first | exact Drawn0.refl _ | apply Drawn0.step)⟩
  case rest =>
    clear HC3
    try clear c1
    try clear c2
    try clear p2
    try clear c4
    try clear c4b0
    obtain ⟨kq, x12_2, rfl, HA, HJ2, ⟨mc2, rfl⟩⟩ := hcut
    cases kq with
    | zero => exact absurd HA.out (by simp [drovewayref09_Ties.j0])
    | succ kj2 =>
      have H := HA.out
      clear HA
      simp only [drovewayref09_Ties.j0] at H
      by_cases c5 : x12_2 = true
      · subst c5
        have H1 : (some 2) = some r := by rw [if_pos rfl] at H; exact H
        clear H
        have H := H1
        clear H1
        obtain rfl := Option.some.inj H
        go_wp2
        repeat (go_quiet (fail); try go_wp2)
        go_ret
        exact ⟨by first | rfl | (simp; done) | (simp [*]; done), by repeat (first | exact Drawn0.refl _ | apply Drawn0.step)⟩
      · replace c5 := Bool.eq_false_iff.mpr c5
        subst c5
        have H1 : (if (l1.length : Int) > 20 then (some 3) else (drovewayref09_Ties.l0 kj2 a0 l1 0)) = some r := by rw [if_neg (show ¬ (false = true) by decide)] at H; exact H
        clear H
        have H := H1
        clear H1
        by_cases c6 : (l1.length : Int) > 20
        · rw [if_pos c6] at H
          have c6b0 : decide (20 < (l1.length : Int)) = true := decide_eq_true c6
          have c6b1 : decide (20 < l1.length) = true := decide_eq_true (by omega)
          clear c6
          obtain rfl := Option.some.inj H
          go_wp2
          repeat (go_quiet (fail); try go_wp2)
          go_ret
          exact ⟨by first | rfl | (simp; done) | (simp [*]; done), by repeat (first | exact Drawn0.refl _ | apply Drawn0.step)⟩
        · rw [if_neg c6] at H
          have c6b0 : decide (20 < (l1.length : Int)) = false := decide_eq_false c6
          have c6b1 : decide (20 < l1.length) = false := decide_eq_false (by omega)
          clear c6
          have H' := Aside0.mk H
          clear H
          go_wp2
          repeat (go_quiet (fail); try go_wp2)
          go_loopg [5] kj2 (fun kq v5 w' => ∃ (x5_2 : Int), v5 = .int .i64 x5_2 ∧ Aside0 (drovewayref09_Ties.l0 kq a0 l1 x5_2 = some r) ∧ Aside0 (kq ≤ kj2) ∧ Drawn0 w w')
          case atStart => exact ⟨(0), (by first | rfl | (simp; done) | (simp [*]; done)), H', ⟨Nat.le_refl _⟩, by repeat (first | exact Drawn0.refl _ | apply Drawn0.step)⟩
          case round =>
            clear H'
            try clear c1
            try clear c2
            try clear p2
            try clear c4
            try clear c4b0
            try clear c5
            try clear c6
            try clear c6b0
            try clear c6b1
            try clear p2
            obtain ⟨x5_2, rfl, HA, HK2, ⟨m2, rfl⟩⟩ := hrel
            cases gk with
            | zero => exact absurd HA.out (by simp [drovewayref09_Ties.l0])
            | succ k2 =>
              have H := HA.out
              clear HA
              simp only [drovewayref09_Ties.l0] at H
              by_cases c7 : x5_2 < (l1.length : Int)
              · rw [if_pos c7] at H
                have c7b0 : decide (x5_2 < (l1.length : Int)) = true := decide_eq_true c7
                clear c7
                have HC8 := Aside0.mk H
                clear H
                go_upto_region 8 with (fail)
                repeat (go_quiet (fail); go_upto_region 8 with (fail))
                go_cut [49] (fun v49 wc => ∃ (kq : Nat) (x49_7 : Bool), v49 = .bool x49_7 ∧ Aside0 (drovewayref09_Ties.j2 kq a0 l1 x5_2 x49_7 = some r) ∧ Aside0 (kq ≤ k2) ∧ Drawn0 w wc)
                case first =>
                  have H := HC8.out
                  clear HC8
                  by_cases c9 : 0 ≤ x5_2
                  · rw [if_pos c9] at H
                    have c9b0 : decide (0 ≤ x5_2) = true := decide_eq_true c9
                    clear c9
                    (first | rw [c9b0] | (simp only [i64_w, i32_w]; rw [c9b0]) | skip)
                    by_cases c10 : ((rd_T39 l1 x5_2).f0) < 0
                    · rw [if_pos c10] at H
                      have c10b0 : decide (((rd_T39 l1 x5_2).f0) < 0) = true := decide_eq_true c10
                      clear c10
                      have H' := Aside0.mk H
                      clear H
                      have p155 : 0 ≤ (x5_2 : Int) := of_decide_eq_true (by first | (with_reducible assumption) | assumption)
                      have q155 : x5_2 < (l1.length : Int) := of_decide_eq_true (by first | (with_reducible assumption) | assumption)
                      obtain ⟨ad155, e155, hx155_0, hx155_1, hx155_2⟩ := at_T39 HR1.out x5_2 p155 q155
                      cases e155
                      replace p155 := eq_true p155
                      replace q155 := eq_true q155
                      go_wp2
                      repeat (go_quiet (fail); try go_wp2)
                      go_meet
                      case rel => exact ⟨_, (true), (by first | rfl | (simp; done) | (simp [*]; done)), H', ⟨by have := HJ2.out; have := HK2.out; first | omega | exact Nat.le_refl _⟩, by repeat (first | exact Drawn0.refl _ | apply Drawn0.step)⟩
                    · rw [if_neg c10] at H
                      have c10b0 : decide (((rd_T39 l1 x5_2).f0) < 0) = false := decide_eq_false c10
                      clear c10
                      by_cases c11 : ((rd_T39 l1 x5_2).f0) ≥ ((rd_T39 l1 x5_2).f1)
                      · rw [if_pos c11] at H
                        have c11b0 : decide (((rd_T39 l1 x5_2).f1) ≤ ((rd_T39 l1 x5_2).f0)) = true := decide_eq_true c11
                        clear c11
                        have H' := Aside0.mk H
                        clear H
                        have p155 : 0 ≤ (x5_2 : Int) := of_decide_eq_true (by first | (with_reducible assumption) | assumption)
                        have q155 : x5_2 < (l1.length : Int) := of_decide_eq_true (by first | (with_reducible assumption) | assumption)
                        obtain ⟨ad155, e155, hx155_0, hx155_1, hx155_2⟩ := at_T39 HR1.out x5_2 p155 q155
                        cases e155
                        replace p155 := eq_true p155
                        replace q155 := eq_true q155
                        have p156 : 0 ≤ (x5_2 : Int) := of_decide_eq_true (by first | (with_reducible assumption) | assumption)
                        have q156 : x5_2 < (l1.length : Int) := of_decide_eq_true (by first | (with_reducible assumption) | assumption)
                        obtain ⟨ad156, e156, hx156_0, hx156_1, hx156_2⟩ := at_T39 HR1.out x5_2 p156 q156
                        obtain rfl : ad155 = ad156 := (by injection e156)
                        replace p156 := eq_true p156
                        replace q156 := eq_true q156
                        have p157 : 0 ≤ (x5_2 : Int) := of_decide_eq_true (by first | (with_reducible assumption) | assumption)
                        have q157 : x5_2 < (l1.length : Int) := of_decide_eq_true (by first | (with_reducible assumption) | assumption)
                        obtain ⟨ad157, e157, hx157_0, hx157_1, hx157_2⟩ := at_T39 HR1.out x5_2 p157 q157
                        obtain rfl : ad155 = ad157 := (by injection e157)
                        replace p157 := eq_true p157
                        replace q157 := eq_true q157
                        go_wp2
                        repeat (go_quiet (fail); try go_wp2)
                        go_meet
                        case rel => exact ⟨_, (true), (by first | rfl | (simp; done) | (simp [*]; done)), H', ⟨by have := HJ2.out; have := HK2.out; first | omega | exact Nat.le_refl _⟩, by repeat (first | exact Drawn0.refl _ | apply Drawn0.step)⟩
                      · rw [if_neg c11] at H
                        have c11b0 : decide (((rd_T39 l1 x5_2).f1) ≤ ((rd_T39 l1 x5_2).f0)) = false := decide_eq_false c11
                        clear c11
                        have H' := Aside0.mk H
                        clear H
                        have p155 : 0 ≤ (x5_2 : Int) := of_decide_eq_true (by first | (with_reducible assumption) | assumption)
                        have q155 : x5_2 < (l1.length : Int) := of_decide_eq_true (by first | (with_reducible assumption) | assumption)
                        obtain ⟨ad155, e155, hx155_0, hx155_1, hx155_2⟩ := at_T39 HR1.out x5_2 p155 q155
                        cases e155
                        replace p155 := eq_true p155
                        replace q155 := eq_true q155
                        have p156 : 0 ≤ (x5_2 : Int) := of_decide_eq_true (by first | (with_reducible assumption) | assumption)
                        have q156 : x5_2 < (l1.length : Int) := of_decide_eq_true (by first | (with_reducible assumption) | assumption)
                        obtain ⟨ad156, e156, hx156_0, hx156_1, hx156_2⟩ := at_T39 HR1.out x5_2 p156 q156
                        obtain rfl : ad155 = ad156 := (by injection e156)
                        replace p156 := eq_true p156
                        replace q156 := eq_true q156
                        have p157 : 0 ≤ (x5_2 : Int) := of_decide_eq_true (by first | (with_reducible assumption) | assumption)
                        have q157 : x5_2 < (l1.length : Int) := of_decide_eq_true (by first | (with_reducible assumption) | assumption)
                        obtain ⟨ad157, e157, hx157_0, hx157_1, hx157_2⟩ := at_T39 HR1.out x5_2 p157 q157
                        obtain rfl : ad155 = ad157 := (by injection e157)
                        replace p157 := eq_true p157
                        replace q157 := eq_true q157
                        have p158 : 0 ≤ (x5_2 : Int) := of_decide_eq_true (by first | (with_reducible assumption) | assumption)
                        have q158 : x5_2 < (l1.length : Int) := of_decide_eq_true (by first | (with_reducible assumption) | assumption)
                        obtain ⟨ad158, e158, hx158_0, hx158_1, hx158_2⟩ := at_T39 HR1.out x5_2 p158 q158
                        obtain rfl : ad155 = ad158 := (by injection e158)
                        replace p158 := eq_true p158
                        replace q158 := eq_true q158
                        go_wp2
                        repeat (go_quiet (fail); try go_wp2)
                        go_meet
                        case rel => exact ⟨_, (decide (((rd_T39 l1 x5_2).f1) ≥ a0)), (by first | rfl | (simp; done) | (simp [*]; done)), H', ⟨by have := HJ2.out; have := HK2.out; first | omega | exact Nat.le_refl _⟩, by repeat (first | exact Drawn0.refl _ | apply Drawn0.step)⟩
                  · rw [if_neg c9] at H
                    exact absurd H (by simp)
                case rest =>
                  clear HC8
                  try clear c1
                  try clear p1
                  try clear q1
                  try clear hx1
                  try clear c2
                  try clear p2
                  try clear c4
                  try clear c4b0
                  try clear c5
                  try clear c6
                  try clear c6b0
                  try clear c6b1
                  try clear c7
                  try clear c7b0
                  try clear c9
                  try clear c9b0
                  try clear c10
                  try clear c10b0
                  try clear c11
                  try clear c11b0
                  try clear hx155_0
                  try clear hx155_1
                  try clear hx155_2
                  try clear hx156_0
                  try clear hx156_1
                  try clear hx156_2
                  try clear hx157_0
                  try clear hx157_1
                  try clear hx157_2
                  try clear hx158_0
                  try clear hx158_1
                  try clear hx158_2
                  try clear p155
                  try clear p156
                  try clear p157
                  try clear p158
                  try clear p2
                  try clear q155
                  try clear q156
                  try clear q157
                  try clear q158
                  obtain ⟨kq, x49_7, rfl, HA, HJ7, ⟨mc7, rfl⟩⟩ := hcut
                  cases kq with
                  | zero => exact absurd HA.out (by simp [drovewayref09_Ties.j2])
                  | succ kj7 =>
                    have H := HA.out
                    clear HA
                    simp only [drovewayref09_Ties.j2] at H
                    by_cases c12 : x49_7 = true
                    · subst c12
                      have H1 : (some 2) = some r := by rw [if_pos rfl] at H; exact H
                      clear H
                      have H := H1
                      clear H1
                      obtain rfl := Option.some.inj H
                      go_wp2
                      repeat (go_quiet (fail); try go_wp2)
                      go_ret
                      exact ⟨by first | rfl | (simp; done) | (simp [*]; done), by repeat (first | exact Drawn0.refl _ | apply Drawn0.step)⟩
                    · replace c12 := Bool.eq_false_iff.mpr c12
                      subst c12
                      have H1 : (drovewayref09_Ties.l1 kj7 a0 l1 x5_2 0) = some r := by rw [if_neg (show ¬ (false = true) by decide)] at H; exact H
                      clear H
                      have H := H1
                      clear H1
                      have H' := Aside0.mk H
                      clear H
                      go_wp2
                      repeat (go_quiet (fail); try go_wp2)
                      go_loopg [6] kj7 (fun kq v6 w' => ∃ (x6_4 : Int), v6 = .int .i64 x6_4 ∧ Aside0 (drovewayref09_Ties.l1 kq a0 l1 x5_2 x6_4 = some r) ∧ Aside0 (kq ≤ kj7) ∧ Drawn0 w w')
                      case atStart => exact ⟨(0), (by first | rfl | (simp; done) | (simp [*]; done)), H', ⟨Nat.le_refl _⟩, by repeat (first | exact Drawn0.refl _ | apply Drawn0.step)⟩
                      case round =>
                        clear H'
                        try clear c1
                        try clear p1
                        try clear q1
                        try clear hx1
                        try clear c2
                        try clear p2
                        try clear c4
                        try clear c4b0
                        try clear c5
                        try clear c6
                        try clear c6b0
                        try clear c6b1
                        try clear c7
                        try clear c7b0
                        try clear c9
                        try clear c9b0
                        try clear c10
                        try clear c10b0
                        try clear c11
                        try clear c11b0
                        try clear c12
                        try clear hx155_0
                        try clear hx155_1
                        try clear hx155_2
                        try clear hx156_0
                        try clear hx156_1
                        try clear hx156_2
                        try clear hx157_0
                        try clear hx157_1
                        try clear hx157_2
                        try clear hx158_0
                        try clear hx158_1
                        try clear hx158_2
                        try clear p1
                        try clear p155
                        try clear p156
                        try clear p157
                        try clear p158
                        try clear p2
                        try clear q1
                        try clear q155
                        try clear q156
                        try clear q157
                        try clear q158
                        obtain ⟨x6_4, rfl, HA, HK4, ⟨m4, rfl⟩⟩ := hrel
                        cases gk with
                        | zero => exact absurd HA.out (by simp [drovewayref09_Ties.l1])
                        | succ k4 =>
                          have H := HA.out
                          clear HA
                          simp only [drovewayref09_Ties.l1] at H
                          by_cases c13 : x6_4 < x5_2
                          · rw [if_pos c13] at H
                            have c13b0 : decide (x6_4 < x5_2) = true := decide_eq_true c13
                            clear c13
                            by_cases c14 : 0 ≤ x6_4
                            · rw [if_pos c14] at H
                              have c14b0 : decide (0 ≤ x6_4) = true := decide_eq_true c14
                              clear c14
                              by_cases c15 : x6_4 < (l1.length : Int)
                              · rw [if_pos c15] at H
                                have c15b0 : decide (x6_4 < (l1.length : Int)) = true := decide_eq_true c15
                                clear c15
                                by_cases c16 : 0 ≤ x5_2
                                · rw [if_pos c16] at H
                                  have c16b0 : decide (0 ≤ x5_2) = true := decide_eq_true c16
                                  clear c16
                                  by_cases c17 : x5_2 < (l1.length : Int)
                                  · rw [if_pos c17] at H
                                    have c17b0 : decide (x5_2 < (l1.length : Int)) = true := decide_eq_true c17
                                    clear c17
                                    by_cases c18 : ((rd_T39 l1 x6_4).f0) = ((rd_T39 l1 x5_2).f0)
                                    · rw [if_pos c18] at H
                                      have c18b0 : (((rd_T39 l1 x6_4).f0) == ((rd_T39 l1 x5_2).f0)) = true := beq_iff_eq.mpr c18
                                      have c18b1 : (((rd_T39 l1 x6_4).f0) != ((rd_T39 l1 x5_2).f0)) = false := bne_eq_false_iff_eq.mpr c18
                                      clear c18
                                      by_cases c19 : ((rd_T39 l1 x6_4).f1) = ((rd_T39 l1 x5_2).f1)
                                      · rw [if_pos c19] at H
                                        have c19b0 : (((rd_T39 l1 x6_4).f1) == ((rd_T39 l1 x5_2).f1)) = true := beq_iff_eq.mpr c19
                                        have c19b1 : (((rd_T39 l1 x6_4).f1) != ((rd_T39 l1 x5_2).f1)) = false := bne_eq_false_iff_eq.mpr c19
                                        clear c19
                                        obtain rfl := Option.some.inj H
                                        have p159 : 0 ≤ (x6_4 : Int) := of_decide_eq_true (by first | (with_reducible assumption) | assumption)
                                        have q159 : x6_4 < (l1.length : Int) := of_decide_eq_true (by first | (with_reducible assumption) | assumption)
                                        obtain ⟨ad159, e159, hx159_0, hx159_1, hx159_2⟩ := at_T39 HR1.out x6_4 p159 q159
                                        cases e159
                                        replace p159 := eq_true p159
                                        replace q159 := eq_true q159
                                        have p160 : 0 ≤ (x5_2 : Int) := of_decide_eq_true (by first | (with_reducible assumption) | assumption)
                                        have q160 : x5_2 < (l1.length : Int) := of_decide_eq_true (by first | (with_reducible assumption) | assumption)
                                        obtain ⟨ad160, e160, hx160_0, hx160_1, hx160_2⟩ := at_T39 HR1.out x5_2 p160 q160
                                        obtain rfl : ad159 = ad160 := (by injection e160)
                                        replace p160 := eq_true p160
                                        replace q160 := eq_true q160
                                        have p161 : 0 ≤ (x6_4 : Int) := of_decide_eq_true (by first | (with_reducible assumption) | assumption)
                                        have q161 : x6_4 < (l1.length : Int) := of_decide_eq_true (by first | (with_reducible assumption) | assumption)
                                        obtain ⟨ad161, e161, hx161_0, hx161_1, hx161_2⟩ := at_T39 HR1.out x6_4 p161 q161
                                        obtain rfl : ad159 = ad161 := (by injection e161)
                                        replace p161 := eq_true p161
                                        replace q161 := eq_true q161
                                        have p162 : 0 ≤ (x5_2 : Int) := of_decide_eq_true (by first | (with_reducible assumption) | assumption)
                                        have q162 : x5_2 < (l1.length : Int) := of_decide_eq_true (by first | (with_reducible assumption) | assumption)
                                        obtain ⟨ad162, e162, hx162_0, hx162_1, hx162_2⟩ := at_T39 HR1.out x5_2 p162 q162
                                        obtain rfl : ad159 = ad162 := (by injection e162)
                                        replace p162 := eq_true p162
                                        replace q162 := eq_true q162
                                        go_wp2
                                        repeat (go_quiet (fail); try go_wp2)
                                        go_ret
                                        exact ⟨by first | rfl | (simp; done) | (simp [*]; done), by repeat (first | exact Drawn0.refl _ | apply Drawn0.step)⟩
                                      · rw [if_neg c19] at H
                                        have c19b0 : (((rd_T39 l1 x6_4).f1) == ((rd_T39 l1 x5_2).f1)) = false := beq_eq_false_iff_ne.mpr c19
                                        have c19b1 : (((rd_T39 l1 x6_4).f1) != ((rd_T39 l1 x5_2).f1)) = true := bne_iff_ne.mpr c19
                                        have H' := Aside0.mk H
                                        clear H
                                        have p159 : 0 ≤ (x6_4 : Int) := of_decide_eq_true (by first | (with_reducible assumption) | assumption)
                                        have q159 : x6_4 < (l1.length : Int) := of_decide_eq_true (by first | (with_reducible assumption) | assumption)
                                        obtain ⟨ad159, e159, hx159_0, hx159_1, hx159_2⟩ := at_T39 HR1.out x6_4 p159 q159
                                        cases e159
                                        replace p159 := eq_true p159
                                        replace q159 := eq_true q159
                                        have p160 : 0 ≤ (x5_2 : Int) := of_decide_eq_true (by first | (with_reducible assumption) | assumption)
                                        have q160 : x5_2 < (l1.length : Int) := of_decide_eq_true (by first | (with_reducible assumption) | assumption)
                                        obtain ⟨ad160, e160, hx160_0, hx160_1, hx160_2⟩ := at_T39 HR1.out x5_2 p160 q160
                                        obtain rfl : ad159 = ad160 := (by injection e160)
                                        replace p160 := eq_true p160
                                        replace q160 := eq_true q160
                                        have p161 : 0 ≤ (x6_4 : Int) := of_decide_eq_true (by first | (with_reducible assumption) | assumption)
                                        have q161 : x6_4 < (l1.length : Int) := of_decide_eq_true (by first | (with_reducible assumption) | assumption)
                                        obtain ⟨ad161, e161, hx161_0, hx161_1, hx161_2⟩ := at_T39 HR1.out x6_4 p161 q161
                                        obtain rfl : ad159 = ad161 := (by injection e161)
                                        replace p161 := eq_true p161
                                        replace q161 := eq_true q161
                                        have p162 : 0 ≤ (x5_2 : Int) := of_decide_eq_true (by first | (with_reducible assumption) | assumption)
                                        have q162 : x5_2 < (l1.length : Int) := of_decide_eq_true (by first | (with_reducible assumption) | assumption)
                                        obtain ⟨ad162, e162, hx162_0, hx162_1, hx162_2⟩ := at_T39 HR1.out x5_2 p162 q162
                                        obtain rfl : ad159 = ad162 := (by injection e162)
                                        replace p162 := eq_true p162
                                        replace q162 := eq_true q162
                                        go_wp2
                                        repeat (go_quiet (fail); try go_wp2)
                                        go_roundg k4
                                        case measure => have := HJ2.out; have := HK2.out; have := HJ7.out; have := HK4.out; omega
                                        case rel => exact ⟨(wrap64 (x6_4 + 1)), (by first | rfl | (simp; done) | (simp [*]; done)), H', ⟨by have := HJ2.out; have := HK2.out; have := HJ7.out; have := HK4.out; omega⟩, by repeat (first | exact Drawn0.refl _ | apply Drawn0.step)⟩
                                    · rw [if_neg c18] at H
                                      have c18b0 : (((rd_T39 l1 x6_4).f0) == ((rd_T39 l1 x5_2).f0)) = false := beq_eq_false_iff_ne.mpr c18
                                      have c18b1 : (((rd_T39 l1 x6_4).f0) != ((rd_T39 l1 x5_2).f0)) = true := bne_iff_ne.mpr c18
                                      have H' := Aside0.mk H
                                      clear H
                                      have p159 : 0 ≤ (x6_4 : Int) := of_decide_eq_true (by first | (with_reducible assumption) | assumption)
                                      have q159 : x6_4 < (l1.length : Int) := of_decide_eq_true (by first | (with_reducible assumption) | assumption)
                                      obtain ⟨ad159, e159, hx159_0, hx159_1, hx159_2⟩ := at_T39 HR1.out x6_4 p159 q159
                                      cases e159
                                      replace p159 := eq_true p159
                                      replace q159 := eq_true q159
                                      have p160 : 0 ≤ (x5_2 : Int) := of_decide_eq_true (by first | (with_reducible assumption) | assumption)
                                      have q160 : x5_2 < (l1.length : Int) := of_decide_eq_true (by first | (with_reducible assumption) | assumption)
                                      obtain ⟨ad160, e160, hx160_0, hx160_1, hx160_2⟩ := at_T39 HR1.out x5_2 p160 q160
                                      obtain rfl : ad159 = ad160 := (by injection e160)
                                      replace p160 := eq_true p160
                                      replace q160 := eq_true q160
                                      go_wp2
                                      repeat (go_quiet (fail); try go_wp2)
                                      go_roundg k4
                                      case measure => have := HJ2.out; have := HK2.out; have := HJ7.out; have := HK4.out; omega
                                      case rel => exact ⟨(wrap64 (x6_4 + 1)), (by first | rfl | (simp; done) | (simp [*]; done)), H', ⟨by have := HJ2.out; have := HK2.out; have := HJ7.out; have := HK4.out; omega⟩, by repeat (first | exact Drawn0.refl _ | apply Drawn0.step)⟩
                                  · rw [if_neg c17] at H
                                    exact absurd H (by simp)
                                · rw [if_neg c16] at H
                                  exact absurd H (by simp)
                              · rw [if_neg c15] at H
                                exact absurd H (by simp)
                            · rw [if_neg c14] at H
                              exact absurd H (by simp)
                          · rw [if_neg c13] at H
                            have c13b0 : decide (x6_4 < x5_2) = false := decide_eq_false c13
                            clear c13
                            have H' := Aside0.mk H
                            clear H
                            go_wp2
                            repeat (go_quiet (fail); try go_wp2)
                            go_roundg k4
                            case measure => have := HJ2.out; have := HK2.out; have := HJ7.out; have := HK4.out; omega
                            case rel => exact ⟨(wrap64 (x5_2 + 1)), (by first | rfl | (simp; done) | (simp [*]; done)), H', ⟨by have := HJ2.out; have := HK2.out; have := HJ7.out; have := HK4.out; omega⟩, by repeat (first | exact Drawn0.refl _ | apply Drawn0.step)⟩
              · rw [if_neg c7] at H
                have c7b0 : decide (x5_2 < (l1.length : Int)) = false := decide_eq_false c7
                clear c7
                obtain rfl := Option.some.inj H
                go_wp2
                repeat (go_quiet (fail); try go_wp2)
                go_ret
                exact ⟨by first | rfl | (simp; done) | (simp [*]; done), by repeat (first | exact Drawn0.refl _ | apply Drawn0.step)⟩

end
end Go.Proofs.Ytaegldcifhgnmaa.B

/- The reference's rings as they are judged, as the kit's print writes them. -/
namespace Go.Proofs.Ytaegldcifhgnmaa.B
open Go.Proofs.Ytaegldcifhgnmaa.A
open Go.RowKit Go.Proofs.YtaegldcifhgnmaaW.PrintWords Go.Proofs.YtaegldcifhgnmaaW.PrintLast Go.Proofs.YtaegldcifhgnmaaW.PrintMore
section
attribute [local go_sem] max2_int min2_int max_two min_two max_three min_three max_four min_four   -- for this text's walks alone
set_option linter.unusedVariables false
set_option linter.unusedSimpArgs false
/-! ### drovewayref09_Less: function 41 -/
mutual
def drovewayref09_Less.l0 : Nat → List Int → List Int → Int → Option (Bool)
  | 0, _, _, _ => none
  | k + 1, x0, x1, x5 => if x5 < (x0.length : Int) then (drovewayref09_Less.j1 k x0 x1 x5 (decide (x5 < (x1.length : Int)))) else (drovewayref09_Less.j1 k x0 x1 x5 false)
def drovewayref09_Less.j1 : Nat → List Int → List Int → Int → Bool → Option (Bool)
  | 0, _, _, _, _ => none
  | k + 1, x0, x1, x5, x15 => if x15 = true then (if 0 ≤ x5 then (if x5 < (x0.length : Int) then (if x5 < (x1.length : Int) then (if (rd x0 x5) = (rd x1 x5) then (drovewayref09_Less.l0 k x0 x1 (wrap64 (x5 + 1))) else (some (decide ((rd x0 x5) < (rd x1 x5))))) else (none)) else (none)) else (none)) else (some (decide ((x0.length : Int) < (x1.length : Int))))
end
def drovewayref09_Less.f (k : Nat) (l0 : List Int) (l1 : List Int) : Option (Bool) := drovewayref09_Less.l0 k l0 l1 0
set_option maxHeartbeats 8000000 in
set_option maxRecDepth 100000 in
theorem drovewayref09_Less.calls (k : Nat) (A0 : Option Addr) (c0 : Nat) (l0 : List Int) (A1 : Option Addr) (c1 : Nat) (l1 : List Int) (r : Bool) (w : World) (hr0 : Kd.C (Kd.int .i64) w A0 l0.length l0) (hc0 : l0.length ≤ c0) (hr1 : Kd.C (Kd.int .i64) w A1 l1.length l1) (hc1 : l1.length ≤ c1) (h : drovewayref09_Less.f k l0 l1 = some r) :
    Calls Try.prog 41 #[.slice A0 l0.length c0, .slice A1 l1.length c1] w fun e w' => e = .returned (.bool r) ∧ Drawn0 w w' := by
  have HR0 := Aside0.mk hr0
  have HC0 := Aside0.mk hc0
  clear hr0 hc0
  have HR1 := Aside0.mk hr1
  have HC1 := Aside0.mk hc1
  clear hr1 hc1
  have H : (drovewayref09_Less.l0 k l0 l1 0) = some r := h
  clear h
  have H' := Aside0.mk H
  clear H
  go_enter Try.func41, Try.ntmps41
  go_wp2
  repeat (go_quiet (fail); try go_wp2)
  go_loopg [5] k (fun kq v5 w' => ∃ (x5_1 : Int), v5 = .int .i64 x5_1 ∧ Aside0 (drovewayref09_Less.l0 kq l0 l1 x5_1 = some r) ∧ Aside0 (kq ≤ k) ∧ Drawn0 w w')
  case atStart => exact ⟨(0), (by first | rfl | (simp; done) | (simp [*]; done)), H', ⟨Nat.le_refl _⟩, by repeat (first | exact Drawn0.refl _ | apply Drawn0.step)⟩
  case round =>
    clear H'
    try clear c1
    try clear p2
    obtain ⟨x5_1, rfl, HA, HK1, ⟨m1, rfl⟩⟩ := hrel
    cases gk with
    | zero => exact absurd HA.out (by simp [drovewayref09_Less.l0])
    | succ k1 =>
      have H := HA.out
      clear HA
      simp only [drovewayref09_Less.l0] at H
      have HC3 := Aside0.mk H
      clear H
      go_upto_region 2 with (fail)
      repeat (go_quiet (fail); go_upto_region 2 with (fail))
      go_cut [15] (fun v15 wc => ∃ (kq : Nat) (x15_2 : Bool), v15 = .bool x15_2 ∧ Aside0 (drovewayref09_Less.j1 kq l0 l1 x5_1 x15_2 = some r) ∧ Aside0 (kq ≤ k1) ∧ Drawn0 w wc)
      case first =>
        have H := HC3.out
        clear HC3
        by_cases c4 : x5_1 < (l0.length : Int)
        · rw [if_pos c4] at H
          have c4b0 : decide (x5_1 < (l0.length : Int)) = true := decide_eq_true c4
          clear c4
          (first | rw [c4b0] | (simp only [i64_w, i32_w]; rw [c4b0]) | skip)
          have H' := Aside0.mk H
          clear H
          go_wp2
          repeat (go_quiet (fail); try go_wp2)
          go_meet
          case rel => exact ⟨_, (decide (x5_1 < (l1.length : Int))), (by first | rfl | (simp; done) | (simp [*]; done)), H', ⟨by have := HK1.out; first | omega | exact Nat.le_refl _⟩, by repeat (first | exact Drawn0.refl _ | apply Drawn0.step)⟩
        · rw [if_neg c4] at H
          have c4b0 : decide (x5_1 < (l0.length : Int)) = false := decide_eq_false c4
          clear c4
          (first | rw [c4b0] | (simp only [i64_w, i32_w]; rw [c4b0]) | skip)
          have H' := Aside0.mk H
          clear H
          go_wp2
          repeat (go_quiet (fail); try go_wp2)
          go_meet
          case rel => exact ⟨_, (false), (by first | rfl | (simp; done) | (simp [*]; done)), H', ⟨by have := HK1.out; first | omega | exact Nat.le_refl _⟩, by repeat (first | exact Drawn0.refl _ | apply Drawn0.step)⟩
      case rest =>
        clear HC3
        try clear c1
        try clear p2
        try clear c4
        try clear c4b0
        try clear p2
        obtain ⟨kq, x15_2, rfl, HA, HJ2, ⟨mc2, rfl⟩⟩ := hcut
        cases kq with
        | zero => exact absurd HA.out (by simp [drovewayref09_Less.j1])
        | succ kj2 =>
          have H := HA.out
          clear HA
          simp only [drovewayref09_Less.j1] at H
          by_cases c5 : x15_2 = true
          · subst c5
            have H1 : (if 0 ≤ x5_1 then (if x5_1 < (l0.length : Int) then (if x5_1 < (l1.length : Int) then (if (rd l0 x5_1) = (rd l1 x5_1) then (drovewayref09_Less.l0 kj2 l0 l1 (wrap64 (x5_1 + 1))) else (some (decide ((rd l0 x5_1) < (rd l1 x5_1))))) else (none)) else (none)) else (none)) = some r := by rw [if_pos rfl] at H; exact H
            clear H
            have H := H1
            clear H1
            by_cases c6 : 0 ≤ x5_1
            · rw [if_pos c6] at H
              have c6b0 : decide (0 ≤ x5_1) = true := decide_eq_true c6
              clear c6
              by_cases c7 : x5_1 < (l0.length : Int)
              · rw [if_pos c7] at H
                have c7b0 : decide (x5_1 < (l0.length : Int)) = true := decide_eq_true c7
                clear c7
                by_cases c8 : x5_1 < (l1.length : Int)
                · rw [if_pos c8] at H
                  have c8b0 : decide (x5_1 < (l1.length : Int)) = true := decide_eq_true c8
                  clear c8
                  by_cases c9 : (rd l0 x5_1) = (rd l1 x5_1)
                  · rw [if_pos c9] at H
                    have c9b0 : ((rd l0 x5_1) == (rd l1 x5_1)) = true := beq_iff_eq.mpr c9
                    have c9b1 : ((rd l0 x5_1) != (rd l1 x5_1)) = false := bne_eq_false_iff_eq.mpr c9
                    clear c9
                    have H' := Aside0.mk H
                    clear H
                    have p174 : 0 ≤ (x5_1 : Int) := of_decide_eq_true (by first | (with_reducible assumption) | assumption)
                    have q174 : x5_1 < (l0.length : Int) := of_decide_eq_true (by first | (with_reducible assumption) | assumption)
                    obtain ⟨ad174, e174, hx174_0⟩ := Kd.at_int HR0.out x5_1 p174 q174
                    cases e174
                    replace p174 := eq_true p174
                    replace q174 := eq_true q174
                    have p175 : 0 ≤ (x5_1 : Int) := of_decide_eq_true (by first | (with_reducible assumption) | assumption)
                    have q175 : x5_1 < (l1.length : Int) := of_decide_eq_true (by first | (with_reducible assumption) | assumption)
                    obtain ⟨ad175, e175, hx175_0⟩ := Kd.at_int HR1.out x5_1 p175 q175
                    cases e175
                    replace p175 := eq_true p175
                    replace q175 := eq_true q175
                    go_wp2
                    repeat (go_quiet (fail); try go_wp2)
                    go_roundg kj2
                    case measure => have := HK1.out; have := HJ2.out; omega
                    case rel => exact ⟨(wrap64 (x5_1 + 1)), (by first | rfl | (simp; done) | (simp [*]; done)), H', ⟨by have := HK1.out; have := HJ2.out; omega⟩, by repeat (first | exact Drawn0.refl _ | apply Drawn0.step)⟩
                  · rw [if_neg c9] at H
                    have c9b0 : ((rd l0 x5_1) == (rd l1 x5_1)) = false := beq_eq_false_iff_ne.mpr c9
                    have c9b1 : ((rd l0 x5_1) != (rd l1 x5_1)) = true := bne_iff_ne.mpr c9
                    obtain rfl := Option.some.inj H
                    have p174 : 0 ≤ (x5_1 : Int) := of_decide_eq_true (by first | (with_reducible assumption) | assumption)
                    have q174 : x5_1 < (l0.length : Int) := of_decide_eq_true (by first | (with_reducible assumption) | assumption)
                    obtain ⟨ad174, e174, hx174_0⟩ := Kd.at_int HR0.out x5_1 p174 q174
                    cases e174
                    replace p174 := eq_true p174
                    replace q174 := eq_true q174
                    have p175 : 0 ≤ (x5_1 : Int) := of_decide_eq_true (by first | (with_reducible assumption) | assumption)
                    have q175 : x5_1 < (l1.length : Int) := of_decide_eq_true (by first | (with_reducible assumption) | assumption)
                    obtain ⟨ad175, e175, hx175_0⟩ := Kd.at_int HR1.out x5_1 p175 q175
                    cases e175
                    replace p175 := eq_true p175
                    replace q175 := eq_true q175
                    have p176 : 0 ≤ (x5_1 : Int) := of_decide_eq_true (by first | (with_reducible assumption) | assumption)
                    have q176 : x5_1 < (l0.length : Int) := of_decide_eq_true (by first | (with_reducible assumption) | assumption)
                    obtain ⟨ad176, e176, hx176_0⟩ := Kd.at_int HR0.out x5_1 p176 q176
                    obtain rfl : ad174 = ad176 := (by injection e176)
                    replace p176 := eq_true p176
                    replace q176 := eq_true q176
                    have p177 : 0 ≤ (x5_1 : Int) := of_decide_eq_true (by first | (with_reducible assumption) | assumption)
                    have q177 : x5_1 < (l1.length : Int) := of_decide_eq_true (by first | (with_reducible assumption) | assumption)
                    obtain ⟨ad177, e177, hx177_0⟩ := Kd.at_int HR1.out x5_1 p177 q177
                    obtain rfl : ad175 = ad177 := (by injection e177)
                    replace p177 := eq_true p177
                    replace q177 := eq_true q177
                    go_wp2
                    repeat (go_quiet (fail); try go_wp2)
                    go_ret
                    exact ⟨by first | rfl | (simp; done) | (simp [*]; done), by repeat (first | exact Drawn0.refl _ | apply Drawn0.step)⟩
                · rw [if_neg c8] at H
                  exact absurd H (by simp)
              · rw [if_neg c7] at H
                exact absurd H (by simp)
            · rw [if_neg c6] at H
              exact absurd H (by simp)
          · replace c5 := Bool.eq_false_iff.mpr c5
            subst c5
            have H1 : (some (decide ((l0.length : Int) < (l1.length : Int)))) = some r := by rw [if_neg (show ¬ (false = true) by decide)] at H; exact H
            clear H
            have H := H1
            clear H1
            obtain rfl := Option.some.inj H
            go_wp2
            repeat (go_quiet (fail); try go_wp2)
            go_ret
            exact ⟨by first | rfl | (simp; done) | (simp [*]; done), by repeat (first | exact Drawn0.refl _ | apply Drawn0.step)⟩


end
end Go.Proofs.Ytaegldcifhgnmaa.B

/- The reference's rings as they are judged, as the kit's print writes them. -/
namespace Go.Proofs.Ytaegldcifhgnmaa.B
open Go.Proofs.Ytaegldcifhgnmaa.A
open Go.RowKit Go.Proofs.YtaegldcifhgnmaaW.PrintWords Go.Proofs.YtaegldcifhgnmaaW.PrintLast Go.Proofs.YtaegldcifhgnmaaW.PrintMore
section
attribute [local go_sem] max2_int min2_int max_two min_two max_three min_three max_four min_four   -- for this text's walks alone
set_option linter.unusedVariables false
set_option linter.unusedSimpArgs false
/-! ### drovewayref09_other: function 88 -/
def drovewayref09_other.f (a0_0 : Int) (a0_1 : Int) (a0_2 : Bool) (a1 : Int) : Option (Int) := if a0_0 = a1 then (some a0_1) else (if a0_1 = a1 then (some a0_0) else (some (-1)))
/-! ### drovewayref09_walked: function 81 -/
mutual
def drovewayref09_walked.l0 : Nat → List (S39) → List Int → Int → Int → Int → Int → Int → Option (Int × Bool)
  | 0, _, _, _, _, _, _, _ => none
  | k + 1, x0, x1, x2, x8, x9, x10, x11 => if x11 < (x1.length : Int) then (if 0 ≤ x11 then (if 0 ≤ (rd x1 x11) then (if (rd x1 x11) < (x0.length : Int) then ((drovewayref09_other.f ((rd_T39 x0 (rd x1 x11)).f0) ((rd_T39 x0 (rd x1 x11)).f1) ((rd_T39 x0 (rd x1 x11)).f2) x8).bind fun t181 => (if t181 < 0 then (drovewayref09_walked.j1 k x0 x1 x2 x9 x10 x11 t181 true) else (if 0 ≤ t181 then (drovewayref09_walked.j1 k x0 x1 x2 x9 x10 x11 t181 ((Int.tmod (shr .i64 x9 t181) 2) == 1)) else (none)))) else (none)) else (none)) else (none)) else (some (x10, (x8 == x2)))
def drovewayref09_walked.j1 : Nat → List (S39) → List Int → Int → Int → Int → Int → Int → Bool → Option (Int × Bool)
  | 0, _, _, _, _, _, _, _, _ => none
  | k + 1, x0, x1, x2, x9, x10, x11, x12, x37 => if x37 = true then (some (0, false)) else (if 0 ≤ x12 then (if 0 ≤ x11 then (if x11 < (x1.length : Int) then (if 0 ≤ (rd x1 x11) then (if (rd x1 x11) < (x0.length : Int) then (if (rd_T39 x0 (rd x1 x11)).f2 = true then (drovewayref09_walked.l0 k x0 x1 x2 x12 (wrap64 (x9 + (shl .i64 1 x12))) (wrap64 (x10 + 1)) (wrap64 (x11 + 1))) else (drovewayref09_walked.l0 k x0 x1 x2 x12 (wrap64 (x9 + (shl .i64 1 x12))) x10 (wrap64 (x11 + 1)))) else (none)) else (none)) else (none)) else (none)) else (none))
end
def drovewayref09_walked.f (k : Nat) (l0 : List (S39)) (l1 : List Int) (a2 : Int) : Option (Int × Bool) := drovewayref09_walked.l0 k l0 l1 a2 a2 0 0 0
/-! ### drovewayref09_isRing: function 64 -/
def drovewayref09_isRing.l0 : Nat → List (S39) → List Int → Int → Option (Int × Bool)
  | 0, _, _, _ => none
  | k + 1, x0, x1, x6 => if x6 < (x1.length : Int) then (if 0 ≤ x6 then (if (rd x1 x6) < 0 then (some (0, false)) else (if (rd x1 x6) ≥ (x0.length : Int) then (some (0, false)) else (drovewayref09_isRing.l0 k x0 x1 (wrap64 (x6 + 1))))) else (none)) else (if 0 < (x1.length : Int) then (if 0 ≤ (rd x1 0) then (if (rd x1 0) < (x0.length : Int) then ((drovewayref09_walked.f k x0 x1 ((rd_T39 x0 (rd x1 0)).f0)).bind fun bt188 => (if bt188.2 = true then (some (bt188.1, true)) else ((drovewayref09_walked.f k x0 x1 ((rd_T39 x0 (rd x1 0)).f1)).bind fun bt192 => (if bt192.2 = true then (some (bt192.1, true)) else (some (0, false)))))) else (none)) else (none)) else (none))
def drovewayref09_isRing.f (k : Nat) (l0 : List (S39)) (l1 : List Int) : Option (Int × Bool) := if (l1.length : Int) < 3 then (some (0, false)) else (drovewayref09_isRing.l0 k l0 l1 0)
/-! ### drovewayref09_IsRing: function 40 -/
def drovewayref09_IsRing.f (k : Nat) (a0 : Int) (l1 : List (S39)) (l2 : List Int) : Option (Int × Bool × Int) := (drovewayref09_Ties.f k a0 l1).bind fun t276 => (if t276 = 0 then ((drovewayref09_isRing.f k l1 l2).bind fun bt277 => (some (bt277.1, bt277.2, 0))) else (some (0, false, t276)))
end
end Go.Proofs.Ytaegldcifhgnmaa.B

/- Rows of whole numbers of the call's own, sorted. -/
namespace Go.Proofs.Ytaegldcifhgnmaa.A
open Go.RowKit Go.Proofs.YtaegldcifhgnmaaW.PrintWords Go.Sort Go.Lib
/-- A row's world behind a store of a whole row. -/
theorem own_put {W : World} {base g n cap q : Nat} {os : Array Obj} {xs ys : List Int} (h : Kd.R (Kd.int .i64) 3 W base (fun _ => True) (.slice (some ⟨g, 0, none⟩) n cap) xs) (hl : ys.length = xs.length) :
    Kd.R (Kd.int .i64) 3 (grow (putRow (Value.int .i64) (Sort.ahead W q) g 0 ys.toArray) os) base (fun _ => True) (.slice (some ⟨g, 0, none⟩) n cap) ys ∧ W.grownBy (grow (putRow (Value.int .i64) (Sort.ahead W q) g 0 ys.toArray) os) (some g) := by
  have ho := Kd.own_of_R h
  rcases ho.2 with ⟨h0, _⟩ | ⟨g', cap', cur, hv, hg, hb, h1, h2, h3, h4⟩
  · cases h0
  · cases hv
    have := ownsRow_sortedI (os := os) (n := q) (ts := ys) (ss := xs) hl hg hb h1 h2 h3
    refine ⟨Kd.R_of_own (by rw [hl]; exact this) (fun _ _ => trivial), grownBy_sortedI _⟩
theorem own_holds {W : World} {base g n cap : Nat} {xs : List Int} (h : Kd.R (Kd.int .i64) 3 W base (fun _ => True) (.slice (some ⟨g, 0, none⟩) n cap) xs) : Holds (Value.int .i64) W g 0 xs.toArray := by
  rcases (Kd.own_of_R h).2 with ⟨h0, _⟩ | ⟨g', cap', cur, hv, hg, hb, h1, h2, h3, h4⟩
  · cases h0
  · cases hv
    exact holds_of_blockI hb (by simpa [encs] using h4)
theorem own_form {W : World} {base : Nat} {v : Value} {xs : List Int} (h : Kd.R (Kd.int .i64) 3 W base (fun _ => True) v xs) (h0 : 0 < xs.length) : ∃ g cap, v = .slice (some ⟨g, 0, none⟩) xs.length cap ∧ base ≤ g ∧ g < W.heap.size ∧ xs.length ≤ cap := by
  have ho := Kd.own_of_R h
  rcases ho.2 with ⟨_, h1⟩ | ⟨g', cap', cur, hv, hg, hb, h1, h2, h3, h4⟩
  · omega
  · exact ⟨g', cap', hv, hg, blk_lt hb, h1⟩

/-- Sorted. -/
def sortI (l : List Int) : List Int := l.mergeSort fun x y => decide (x ≤ y)
theorem sortI_len (l : List Int) : (sortI l).length = l.length := List.length_mergeSort _
theorem sort_any {v : Value} {base : Nat} {xs : List Int} {w : World} (h : Kd.R (Kd.int .i64) 3 w base (fun _ => True) v xs) (hl : xs.length ≤ 1000) :
    Calls Try.prog 78 #[v] w fun e w' => e = .returned (.tuple #[]) ∧ Kd.R (Kd.int .i64) 3 w' base (fun _ => True) v (sortI xs) ∧ w.grownBy w' v.ownBlock := by
  by_cases h0 : 0 < xs.length
  · obtain ⟨g, cap, rfl, hg, hlt, hc⟩ := own_form h h0
    refine (Try.slices_Sort_int g 0 cap xs w (own_holds h) hlt (by omega)).mono ?_
    rintro e w' ⟨rfl, n, os, rfl⟩
    exact ⟨rfl, own_put h (sortI_len xs)⟩
  · have hnil : xs = [] := List.length_eq_zero_iff.1 (by omega)
    subst hnil
    obtain ⟨A, c, rfl, _, _⟩ := Kd.R_reads h
    refine (Try.slices_Sort_int_none A c w).mono ?_
    rintro e w' ⟨rfl, rfl⟩
    exact ⟨rfl, by rw [show sortI [] = [] by simp [sortI]]; exact h, World.grownBy.refl _ _⟩

end Go.Proofs.Ytaegldcifhgnmaa.A

/- The groups of drovers, plain. -/
namespace Go.Proofs.Ytaegldcifhgnmaa.A
open Go.RowKit Go.Proofs.YtaegldcifhgnmaaW.PrintWords Go.Proofs.YtaegldcifhgnmaaW.PrintMore
/-- a without b. -/
def less (a b : Nat) : Nat := a ^^^ (a &&& b)
theorem tb_less (a b i : Nat) : (less a b).testBit i = (a.testBit i && !b.testBit i) := by
  unfold less
  rw [Nat.testBit_xor, Nat.testBit_and]
  cases a.testBit i <;> cases b.testBit i <;> rfl
theorem less_lt {a b k : Nat} (h : a < 2 ^ k) : less a b < 2 ^ k := Nat.xor_lt_two_pow h (Nat.lt_of_le_of_lt Nat.and_le_left h)
theorem andNot64 (a b : Nat) (ha : a < 2 ^ 62) (_hb : b < 2 ^ 62) : bits .andNot .i64 (a : Int) (b : Int) = ((less a b : Nat) : Int) := by
  have e : (BitVec.ofInt IntKind.i64.bits (a : Int) &&& ~~~ BitVec.ofInt IntKind.i64.bits (b : Int)).toNat = less a b := by
    rw [BitVec.ofInt_natCast, BitVec.ofInt_natCast]
    apply Nat.eq_of_testBit_eq
    intro i
    rw [tb_less, BitVec.testBit_toNat, BitVec.getLsbD_and, BitVec.getLsbD_not, BitVec.getLsbD_ofNat, BitVec.getLsbD_ofNat]
    by_cases hi : i < IntKind.i64.bits
    · simp [hi]
    · rw [tb_big ha (j := i) (by have : IntKind.i64.bits = 64 := rfl; omega)]
      simp
  show IntKind.i64.wrap _ = _
  simp only [e]
  exact wrap64_nat _ (by omega) (by exact_mod_cast less_lt ha)

/-- The least drover of a set, as a set. -/
def lowB (x : Nat) : Nat := less x (x - 1)
theorem low_table : (List.range 256).all (fun x => decide (bits .and .i64 (x : Int) (-(x : Int)) = (lowB x : Int))) = true := by decide +kernel
theorem low_ask {x : Nat} (h : x < 256) : bits .and .i64 (x : Int) (-(x : Int)) = (lowB x : Int) := by
  have := List.all_eq_true.1 low_table x (List.mem_range.2 h)
  exact of_decide_eq_true this

def pairB (t : S39) : Nat := 2 ^ t.f0.toNat ||| 2 ^ t.f1.toNat
/-- A set, with the drovers that a tie adds. -/
def addT (q : S39 → Bool) (t : S39) (x : Nat) : Nat := if q t = true ∧ x &&& pairB t ≠ 0 then x ||| pairB t else x
/-- With those that the first k ties add, one after another. -/
def addK (q : S39 → Bool) (l : List S39) (x : Nat) : Nat → Nat
  | 0 => x
  | k + 1 => addT q (l.getD k z39) (addK q l x k)
def spread (q : S39 → Bool) (l : List S39) (x : Nat) : Nat → Nat
  | 0 => x
  | k + 1 => addK q l (spread q l x k) l.length
/-- The groups of those that are left. -/
def groupsL (q : S39 → Bool) (n : Nat) (l : List S39) : Nat → Nat → List Int
  | 0, _ => []
  | f + 1, left => if left = 0 then [] else ((spread q l (lowB left) n : Nat) : Int) :: groupsL q n l f (less left (spread q l (lowB left) n))
def groupsF (q : S39 → Bool) (n : Nat) (l : List S39) : List Int := groupsL q n l (2 ^ n) (2 ^ n - 1)

theorem addT_sup {q : S39 → Bool} {t : S39} {x i : Nat} (h : x.testBit i = true) : (addT q t x).testBit i = true := by
  unfold addT
  split
  · rw [Nat.testBit_or, h]; rfl
  · exact h
theorem addK_sup {q : S39 → Bool} {l : List S39} {x i : Nat} (h : x.testBit i = true) : ∀ k, (addK q l x k).testBit i = true
  | 0 => h
  | k + 1 => addT_sup (addK_sup h k)
theorem spread_sup {q : S39 → Bool} {l : List S39} {x i : Nat} (h : x.testBit i = true) : ∀ k, (spread q l x k).testBit i = true
  | 0 => h
  | k + 1 => addK_sup (spread_sup h k) _
/-- Ties of m drovers. -/
def okN (m : Nat) (l : List S39) : Prop := ∀ t ∈ l, 0 ≤ t.f0 ∧ t.f0 < m ∧ 0 ≤ t.f1 ∧ t.f1 < m
theorem pairB_lt {m : Nat} {t : S39} (h : 0 ≤ t.f0 ∧ t.f0 < m ∧ 0 ≤ t.f1 ∧ t.f1 < m) : pairB t < 2 ^ m :=
  or_lt (Nat.pow_lt_pow_right (by decide) (by omega)) (Nat.pow_lt_pow_right (by decide) (by omega))
theorem addK_lt {q : S39 → Bool} {l : List S39} {x m : Nat} (hl : okN m l) (hx : x < 2 ^ m) : ∀ k, k ≤ l.length → addK q l x k < 2 ^ m
  | 0, _ => hx
  | k + 1, hk => by
    unfold addK addT
    split
    · exact or_lt (addK_lt hl hx k (by omega)) (pairB_lt (hl _ (getD_mem z39 (by omega))))
    · exact addK_lt hl hx k (by omega)
theorem spread_lt {q : S39 → Bool} {l : List S39} {x m : Nat} (hl : okN m l) (hx : x < 2 ^ m) : ∀ k, spread q l x k < 2 ^ m
  | 0 => hx
  | k + 1 => addK_lt hl (spread_lt hl hx k) _ (Nat.le_refl _)
theorem lowB_lt {x m : Nat} (h : x < 2 ^ m) : lowB x < 2 ^ m := less_lt h
theorem low_bit_table : (List.range 256).all (fun x => x == 0 || (List.range 8).any fun i => x.testBit i && (lowB x).testBit i) = true := by decide +kernel
theorem low_bit {x : Nat} (h : x < 256) (h0 : x ≠ 0) : ∃ i, x.testBit i = true ∧ (lowB x).testBit i = true := by
  have := List.all_eq_true.1 low_bit_table x (List.mem_range.2 h)
  rw [Bool.or_eq_true, beq_iff_eq] at this
  rcases this with h1 | h1
  · exact absurd h1 h0
  · obtain ⟨i, _, hi⟩ := List.any_eq_true.1 h1
    rw [Bool.and_eq_true] at hi
    exact ⟨i, hi.1, hi.2⟩
theorem less_le (a b : Nat) : less a b ≤ a := by
  have : a &&& less a b = less a b := by
    apply Nat.eq_of_testBit_eq
    intro i
    rw [Nat.testBit_and, tb_less]
    cases a.testBit i <;> simp
  rw [← this]
  exact Nat.and_le_left
theorem less_dec {a b i : Nat} (ha : a.testBit i = true) (hb : b.testBit i = true) : less a b < a := by
  have h1 := less_le a b
  rcases Nat.lt_or_eq_of_le h1 with h | h
  · exact h
  · have := tb_less a b i
    rw [h, ha, hb] at this
    cases this
end Go.Proofs.Ytaegldcifhgnmaa.A

/- The groups of drovers: the walk. -/
namespace Go.Proofs.Ytaegldcifhgnmaa.A
open Go.RowKit Go.Proofs.YtaegldcifhgnmaaW.PrintWords Go.Proofs.YtaegldcifhgnmaaW.PrintMore
/-- A function value that says of a tie whether something is true of it. -/
structure SaysT (gq : Nat) (q : S39 → Bool) : Prop where
  enters : ∀ args w, (callFunc gq args).run Try.prog w = .ok (.enter gq args) w
  call : ∀ (t : S39) (W : World), Calls Try.prog gq #[.agg #[.int .i64 t.f0, .int .i64 t.f1, .bool t.f2]] W fun e w' => e = .returned (.bool (q t)) ∧ Below W.heap.size W w'

/-- What is held. -/
structure Held (w : World) (n : Nat) (A : Option Addr) (c : Nat) (l : List S39) (v : Value) (out : List Int) (W : World) : Prop where
  net : W.heap[w.heap.size]? = some (.cells #[.int .i64 n, .slice A l.length c] 59 (0, 0))
  below : Below w.heap.size w W
  row : Kd.R (Kd.int .i64) 3 W (w.heap.size + 1) (fun _ => True) v out
theorem held_next {w W W' : World} {n : Nat} {A : Option Addr} {c : Nat} {l : List S39} {v : Value} {out : List Int} (h : Held w n A c l v out W) (hb : Below W.heap.size W W') : Held w n A c l v out W' :=
  ⟨(hb.block _ (blk_lt h.net)).trans h.net, below_then h.below h.below.size hb, Kd.R_below h.row hb⟩

set_option maxRecDepth 100000 in
set_option maxHeartbeats 3200000 in
theorem groups_calls (gq : Nat) (q : S39 → Bool) (hsay : SaysT gq q) (n : Nat) (hn : n ≤ 8) (A : Option Addr) (c : Nat) (l : List S39) (hok : okN n l) (hl : l.length ≤ 1000) (w : World) (hr : Kd.C k39 w A l.length l) :
    Calls Try.prog 52 #[.agg #[.int .i64 n, .slice A l.length c], .func (.func gq) #[] #[]] w fun e w' => ∃ v, e = .returned v ∧ Kd.R (Kd.int .i64) 3 w' w.heap.size (fun _ => True) v (sortI (groupsF q n l)) ∧ Below w.heap.size w w' := by
  have HS := Aside0.mk hsay
  have HR := Aside0.mk hr
  have HO := Aside0.mk hok
  have eg := hsay.enters
  have hg0 := heap_alloc_new w (.cells #[.int .i64 n, .slice A l.length c] 59)
  have hb0 : Below w.heap.size w (w.alloc (.cells #[.int .i64 n, .slice A l.length c] 59)) := below_alloc (Below.refl _ _) _
  have H0 := Aside0.mk (And.intro hg0 hb0)
  obtain ⟨F, hF⟩ : ∃ F, groupsF q n l = F := ⟨_, rfl⟩
  have HF := Aside0.mk hF
  have hp8 := pow8 hn
  have hw : wrap64 (2 ^ n) = ((2 ^ n : Nat) : Int) := by rw [wrap64_two (by omega), pow_cast]
  obtain ⟨N, hN⟩ : ∃ N, 2 ^ n = N := ⟨_, rfl⟩
  have hN1 : 1 ≤ N := by rw [← hN]; exact Nat.two_pow_pos n
  rw [hF]
  rw [hN] at hw hp8
  have HN := Aside0.mk hN
  clear hsay hr hok hg0 hb0 hF hN
  go_enter Try.func52, Try.ntmps52
  go_wp2
  rw [hw]
  clear hw
  have hstart : Aside0 (Held w n A c l (.slice none 0 0) [] (w.alloc (.cells #[.int .i64 n, .slice A l.length c] 59))) := ⟨⟨H0.out.1, H0.out.2, Kd.R_nil _ _ _ _ _⟩⟩
  go_loopg [5, 6, 7, 9, 10] N (fun gg v5 v6 _ _ _ wr => ∃ (f left : Nat) (out : List Int), v6 = .int .i64 left ∧ left < N ∧ f ≤ gg ∧ left ≤ f ∧ out.length + f ≤ 256 ∧ Aside0 (Held w n A c l v5 out wr) ∧ Aside0 (out ++ groupsL q n l f left = F))
  case atStart => exact ⟨N, N - 1, [], by go_num, by omega, by omega, by omega, by simpa using hp8, hstart, ⟨by rw [← HF.out, groupsF, HN.out]; rfl⟩⟩
  case round =>
    clear hstart
    obtain ⟨f, left, out, rfl, hlN, hfg, hlf, hof, HW, HE⟩ := hrel
    obtain ⟨n0, n1, _, _⟩ := cells2 HW.out.net
    by_cases h0 : 0 < left
    · have hz : (0 : Int) < (left : Int) := by omega
      obtain ⟨f, rfl⟩ : ∃ f', f = f' + 1 := ⟨f - 1, by omega⟩
      have hlow := low_ask (x := left) (by omega)
      have hlb : Aside0 (lowB left < 2 ^ n) := ⟨lowB_lt (by rw [HN.out]; exact hlN)⟩
      obtain ⟨x0, hx0⟩ : ∃ x0, lowB left = x0 := ⟨_, rfl⟩
      rw [hx0] at hlow hlb
      have HX0 := Aside0.mk hx0
      clear hx0
      go_wp2
      obtain ⟨wo, rfl⟩ : ∃ wo : World, wo = wr := ⟨_, rfl⟩
      clear n0 n1 hlow
      go_loopg [7, 9, 10, 23] n (fun g2 v7 _ _ v23 wr => ∃ r : Nat, r ≤ n ∧ n - r ≤ g2 ∧ v23 = .int .i64 r ∧ v7 = .int .i64 (spread q l x0 r) ∧ Aside0 (Held w n A c l u5 out wr))
      case atStart => exact ⟨0, Nat.zero_le _, by omega, rfl, rfl, HW⟩
      case round =>
        clear HW
        obtain ⟨r, hrn, hg2, rfl, rfl, HW⟩ := hrel
        obtain ⟨n0, n1, _, _⟩ := cells2 HW.out.net
        by_cases hrlt : r < n
        · have hrz : (r : Int) < (n : Int) := by omega
          go_wp2
          obtain ⟨wo2, rfl⟩ : ∃ wo : World, wo = wr := ⟨_, rfl⟩
          clear n0 n1
          obtain ⟨y, hy⟩ : ∃ y, spread q l x0 r = y := ⟨_, rfl⟩
          have HYY := Aside0.mk hy
          have hyl : Aside0 (y < 2 ^ n) := ⟨by rw [← hy]; exact spread_lt HO.out hlb.out r⟩
          rw [hy]
          clear hy
          go_loopg [7, 9, 10, 28] l.length (fun g3 v7 _ _ v28 wr => ∃ k : Nat, k ≤ l.length ∧ l.length - k ≤ g3 ∧ v28 = .int .i64 k ∧ v7 = .int .i64 (addK q l y k) ∧ Aside0 (Held w n A c l u5 out wr))
          case atStart => exact ⟨0, Nat.zero_le _, by omega, rfl, rfl, HW⟩
          case round =>
            clear HW
            obtain ⟨k, hkl, hg3, rfl, rfl, HW⟩ := hrel
            by_cases hklt : k < l.length
            · have hkz : (k : Int) < (l.length : Int) := by omega
              obtain ⟨ad, rfl, hx0, hx1, hx2⟩ := at_T39 (Kd.C_below HR.out HW.out.below) (k : Int) (by omega) (by omega)
              rw [Int.toNat_natCast] at hx0 hx1 hx2
              have hrd : rd_T39 l (k : Int) = l.getD k z39 := by simp [rd_T39]
              rw [hrd] at hx0 hx1 hx2
              have hts := HO.out _ (getD_mem z39 hklt)
              have hsuc : addK q l y (k + 1) = addT q (l.getD k z39) (addK q l y k) := rfl
              have hxl := addK_lt (q := q) HO.out hyl.out k (by omega)
              generalize hy : l.getD k z39 = t at hx0 hx1 hx2 hts hsuc
              obtain ⟨a, b, f⟩ := t
              dsimp only at hx0 hx1 hx2 hts
              obtain ⟨h1, h2, h3, h4⟩ := hts
              obtain ⟨a, rfl⟩ := Int.eq_ofNat_of_zero_le h1
              obtain ⟨b, rfl⟩ := Int.eq_ofNat_of_zero_le h3
              have hPl : pairB ⟨a, b, f⟩ < 2 ^ n := pairB_lt ⟨h1, h2, h3, h4⟩
              obtain ⟨P, hP⟩ : ∃ P, pairB ⟨a, b, f⟩ = P := ⟨_, rfl⟩
              have hP2 : 2 ^ a ||| 2 ^ b = P := hP
              rw [hP] at hPl
              have HSU : Aside0 (addK q l y (k + 1) = if q ⟨a, b, f⟩ = true ∧ addK q l y k &&& P ≠ 0 then addK q l y k ||| P else addK q l y k) := ⟨by rw [hsuc, addT, hP]⟩
              obtain ⟨x, hx⟩ : ∃ x, addK q l y k = x := ⟨_, rfl⟩
              rw [hx] at hxl HSU ⊢
              have hor0 : bits .or .i64 (2 ^ a) (2 ^ b) = (P : Int) := by rw [pow_cast, pow_cast, or64 (2 ^ a) (2 ^ b) (two_lt (by omega)) (two_lt (by omega)), hP2]
              have hpa : IntKind.i64.wrap ((2 : Int) ^ a) = 2 ^ a := by rw [pow_cast]; exact wrap64_nat _ (Int.natCast_nonneg _) (by exact_mod_cast two_lt (show a < 62 by omega))
              have hpb : IntKind.i64.wrap ((2 : Int) ^ b) = 2 ^ b := by rw [pow_cast]; exact wrap64_nat _ (Int.natCast_nonneg _) (by exact_mod_cast two_lt (show b < 62 by omega))
              have hand : bits .and .i64 (x : Int) (P : Int) = ((x &&& P : Nat) : Int) := and64 x P (lt62 hxl (by omega)) (lt62 hPl (by omega))
              have horx : bits .or .i64 (x : Int) (P : Int) = ((x ||| P : Nat) : Int) := or64 x P (lt62 hxl (by omega)) (lt62 hPl (by omega))
              have HORX := Aside0.mk horx
              have HAND := Aside0.mk hand
              clear hrd hsuc hy hP hP2 hx hxl hPl horx hand h1 h3
              cases hqq : q ⟨a, b, f⟩ with
              | false =>
                have HQ := Aside0.mk hqq
                have HX : Aside0 (x = addK q l y (k + 1)) := ⟨by rw [HSU.out, if_neg (fun h => by rw [hqq] at h; cases h.1)]⟩
                clear hqq
                go_wp2
                go_quiet (fail)
                clear hor0 hpa hpb
                have HW2 := Aside0.mk (held_next HW.out (pw_below_drewN (below_alloc (Below.refl wr.heap.size wr) (.cells #[.int .i64 (a : Int), .int .i64 (b : Int), .bool f] 39)) nq))
                go_wp2_with (go_at_fn gq; go_must (refine (HS.out.call ⟨a, b, f⟩ _).mono ?_; rw [HQ.out]; rintro e w3 ⟨rfl, hb3⟩; have HW3 := Aside0.mk (held_next HW2.out hb3); clear hb3))
                go_roundg (l.length - (k + 1))
                case measure => omega
                case rel => exact ⟨k + 1, by omega, by omega, by go_num, by rw [← HX.out], HW3⟩
              | true =>
                have HQ := Aside0.mk hqq
                by_cases hz : x &&& P = 0
                · have hzz : (bits .and .i64 (x : Int) (P : Int) != 0) = false := by rw [HAND.out, hz]; rfl
                  have HX : Aside0 (x = addK q l y (k + 1)) := ⟨by rw [HSU.out, if_neg (fun h => h.2 hz)]⟩
                  clear hqq hz
                  go_wp2
                  go_quiet (fail)
                  clear hor0 hpa hpb
                  have HW2 := Aside0.mk (held_next HW.out (pw_below_drewN (below_alloc (Below.refl wr.heap.size wr) (.cells #[.int .i64 (a : Int), .int .i64 (b : Int), .bool f] 39)) nq))
                  go_wp2_with (go_at_fn gq; go_must (refine (HS.out.call ⟨a, b, f⟩ _).mono ?_; rw [HQ.out]; rintro e w3 ⟨rfl, hb3⟩; have HW3 := Aside0.mk (held_next HW2.out hb3); clear hb3))
                  go_roundg (l.length - (k + 1))
                  case measure => omega
                  case rel => exact ⟨k + 1, by omega, by omega, by go_num, by rw [← HX.out], HW3⟩
                · have hzz : (bits .and .i64 (x : Int) (P : Int) != 0) = true := by rw [HAND.out, bne_iff_ne]; omega
                  have HX : Aside0 (addK q l y (k + 1) = x ||| P) := ⟨by rw [HSU.out, if_pos ⟨hqq, hz⟩]⟩
                  have horx := HORX.out
                  clear hqq hz
                  go_wp2
                  go_quiet (fail)
                  clear hor0 hpa hpb
                  have HW2 := Aside0.mk (held_next HW.out (pw_below_drewN (below_alloc (Below.refl wr.heap.size wr) (.cells #[.int .i64 (a : Int), .int .i64 (b : Int), .bool f] 39)) nq))
                  go_wp2_with (go_at_fn gq; go_must (refine (HS.out.call ⟨a, b, f⟩ _).mono ?_; rw [HQ.out]; rintro e w3 ⟨rfl, hb3⟩; have HW3 := Aside0.mk (held_next HW2.out hb3); clear hb3))
                  go_roundg (l.length - (k + 1))
                  case measure => omega
                  case rel => exact ⟨k + 1, by omega, by omega, by go_num, by rw [HX.out], HW3⟩
            · have hkz : ¬ (k : Int) < (l.length : Int) := by omega
              have hke : k = l.length := by omega
              have HK : Aside0 (addK q l y k = spread q l x0 (r + 1)) := ⟨by rw [hke, ← HYY.out]; rfl⟩
              rw [HK.out]
              clear hke
              go_wp2
              go_roundg (n - (r + 1))
              case measure => omega
              case rel => exact ⟨r + 1, by omega, by omega, by go_num, rfl, HW⟩
        · have hrz : ¬ (r : Int) < (n : Int) := by omega
          have hre : r = n := by omega
          obtain ⟨A1, c1, hv1, hc1, _⟩ := Kd.R_reads HW.out.row
          subst hv1
          clear hc1
          obtain ⟨x, hx⟩ : ∃ x, spread q l x0 r = x := ⟨_, rfl⟩
          have hxl : x < 2 ^ n := by rw [← hx]; exact spread_lt HO.out hlb.out r
          have hsub : less left x < left := by
            obtain ⟨i, hi1, hi2⟩ := low_bit (x := left) (by omega) (by omega)
            rw [HX0.out] at hi2
            exact less_dec hi1 (by rw [← hx]; exact spread_sup hi2 r)
          have hnot : bits .andNot .i64 (left : Int) (x : Int) = ((less left x : Nat) : Int) := andNot64 left x (by omega) (lt62 hxl (by omega))
          have HG : Aside0 (groupsL q n l (f + 1) left = (x : Int) :: groupsL q n l f (less left x)) := ⟨by rw [groupsL, if_neg (by omega), HX0.out]; rw [hre] at hx; rw [hx]⟩
          rw [hx]
          have hre' : (r : Int) = n := by omega
          clear hx hre hxl
          go_wp2_with (at_builtin; go_must (refine Kd.R_append (Kd.int .i64) (w0 := wr) (w.heap.size + 1) rfl (.tmp 53) (.tmp 55) 28 3 (.int .i64 0) 8 rfl Try.underlying28 info3 rfl (by decide) (by omega) (.slice A1 out.length c1) out (x : Int) [.int .i64 (x : Int)] (fun _ => True) (fun _ => False) rfl rfl rfl (fun _ hk => hk.elim) (fun _ _ => trivial) HW.out.row (Below.refl _ _) (by have := blk_lt HW.out.net; omega) (by omega) ?_; intro v4 w4 ho hbb hg4 hat; have HW4 : Aside0 (Held w n A c l v4 (out ++ [(x : Int)]) w4) := ⟨⟨(hg4.block _ (blk_lt HW.out.net) (fun e => by have := Kd.R_base HW.out.row _ e.symm; omega)).trans HW.out.net, HW.out.below.grown hg4 HW.out.below.size (fun k hk => by have := Kd.R_base HW.out.row k hk; omega), ho⟩⟩; clear ho hbb hg4 hat))
          go_roundg f
          case measure => omega
          case rel => exact ⟨f, less left x, out ++ [(x : Int)], rfl, by omega, Nat.le_refl _, by omega, by rw [List.length_append, List.length_singleton]; omega, HW4, ⟨by rw [← HE.out, HG.out, List.append_assoc]; rfl⟩⟩
    · have hz : ¬ (0 : Int) < (left : Int) := by omega
      have hl0 : left = 0 := by omega
      have HFF : Aside0 (out = F) := ⟨by rw [← HE.out, hl0]; cases f <;> simp [groupsL]⟩
      have hlen : out.length ≤ 1000 := by omega
      clear hl0
      go_wp2_with (go_at_call 78; go_must (refine (sort_any HW.out.row hlen).mono ?_; rintro e w2 ⟨rfl, hr2, hg2⟩; have HR2 := Aside0.mk hr2; have HB2 := Aside0.mk (HW.out.below.grown hg2 HW.out.below.size (fun k hk => by have := Kd.R_base HW.out.row k hk; omega)); clear hr2 hg2))
      go_ret
      exact ⟨_, rfl, by rw [← HFF.out]; exact Kd.R_lower HR2.out (by omega), HB2.out⟩
end Go.Proofs.Ytaegldcifhgnmaa.A

/- Classes and Clans: what they return. -/
namespace Go.Proofs.Ytaegldcifhgnmaa.A
open Go.RowKit Go.Proofs.YtaegldcifhgnmaaW.PrintWords Go.Proofs.YtaegldcifhgnmaaW.PrintMore
def friendB (t : S39) : Bool := !t.f2
def anyT (_ : S39) : Bool := true
theorem enters53 : ∀ args w, (callFunc 53 args).run Try.prog w = .ok (.enter 53 args) w := enters_of Try.func53 (by kernel_rfl) rfl
theorem enters60 : ∀ args w, (callFunc 60 args).run Try.prog w = .ok (.enter 60 args) w := enters_of Try.func60 (by kernel_rfl) rfl
theorem enters55 : ∀ args w, (callFunc 55 args).run Try.prog w = .ok (.enter 55 args) w := enters_of Try.func55 (by kernel_rfl) rfl
set_option maxRecDepth 100000 in
set_option maxHeartbeats 400000 in
theorem friend_calls (t : S39) (W : World) : Calls Try.prog 53 #[.agg #[.int .i64 t.f0, .int .i64 t.f1, .bool t.f2]] W fun e w' => e = .returned (.bool (friendB t)) ∧ Below W.heap.size W w' := by
  have HB := Aside0.mk (below_alloc (Below.refl W.heap.size W) (.cells #[.int .i64 t.f0, .int .i64 t.f1, .bool t.f2] 39))
  unfold friendB
  go_enter Try.func53, Try.ntmps53
  go_wp2
  go_ret
  exact ⟨rfl, HB.out⟩
theorem says_friend : SaysT 53 friendB := ⟨enters53, friend_calls⟩
set_option maxRecDepth 100000 in
set_option maxHeartbeats 400000 in
theorem any_calls (t : S39) (W : World) : Calls Try.prog 60 #[.agg #[.int .i64 t.f0, .int .i64 t.f1, .bool t.f2]] W fun e w' => e = .returned (.bool (anyT t)) ∧ Below W.heap.size W w' := by
  have HB := Aside0.mk (below_alloc (Below.refl W.heap.size W) (.cells #[.int .i64 t.f0, .int .i64 t.f1, .bool t.f2] 39))
  unfold anyT
  go_enter Try.func60, Try.ntmps60
  go_wp2
  go_ret
  exact ⟨rfl, HB.out⟩
theorem says_any : SaysT 60 anyT := ⟨enters60, any_calls⟩

theorem tiesE_ok {m : Nat} {l : List S39} (h : tiesE m l = 0) : okN m l := by
  obtain ⟨hn, hl, ho⟩ := tiesE_parts h
  intro t ht
  obtain ⟨i, hi, rfl⟩ := List.mem_iff_getElem.1 ht
  have := okT_parts (okTies_parts ho hi).1
  rw [List.getD_eq_getElem?_getD, List.getElem?_eq_getElem hi] at this
  simp only [Option.getD_some] at this
  omega

/-! ### Classes -/
def classK (n : Nat) (l : List S39) : Int := (l.length : Int) - n + (groupsF anyT n l).length
def feuds_Classes.f (a0 : Int) (l1 : List S39) : Option (Int × Int) :=
  if tiesE a0 l1 = 0 then (if 0 ≤ classK a0.toNat l1 ∧ classK a0.toNat l1 ≤ 60 then some (((2 ^ (classK a0.toNat l1).toNat : Nat) : Int), 0) else none) else some (0, tiesE a0 l1)

set_option maxRecDepth 100000 in
set_option maxHeartbeats 800000 in
theorem Classes_err (n : Int) (A : Option Addr) (c : Nat) (l : List S39) (w : World) (hr : Kd.C k39 w A l.length l) (E : Int) (h : tiesE n l = E) (h0 : E ≠ 0) :
    Calls Try.prog 32 #[.int .i64 n, .slice A l.length c] w fun e w' => e = .returned (.tuple #[.int .i64 0, .int .i64 E]) ∧ Below w.heap.size w w' := by
  have HR := Aside0.mk hr
  have HE := Aside0.mk h
  have hg := errne h0
  have H0 := Aside0.mk h0
  clear hr h h0
  go_enter Try.func32, Try.ntmps32
  go_wp2_with (go_at_call 46; refine (read_err HR.out HE.out H0.out).mono ?_; rintro e w' ⟨rfl, hb'⟩; have HB := Aside0.mk hb'; clear hb')
  go_ret2
  exact ⟨rfl, below_alloc HB.out _⟩

set_option maxRecDepth 100000 in
set_option maxHeartbeats 800000 in
theorem Classes_good (m : Nat) (A : Option Addr) (c : Nat) (l : List S39) (w : World) (hr : Kd.C k39 w A l.length l) (h : tiesE m l = 0) (k : Nat) (hk : classK m l = k) (hk60 : k ≤ 60) :
    Calls Try.prog 32 #[.int .i64 m, .slice A l.length c] w fun e w' => e = .returned (.tuple #[.int .i64 ((2 ^ k : Nat) : Int), .int .i64 0]) ∧ Below w.heap.size w w' := by
  have hm : m ≤ 8 := by have := (tiesE_parts h).1; omega
  have hl20 : l.length ≤ 20 := (tiesE_parts h).2.1
  have HR := Aside0.mk hr
  have HS := Aside0.mk (tiesE_ok h)
  have HE := Aside0.mk h
  obtain ⟨G, hG⟩ : ∃ G, (sortI (groupsF anyT m l)).length = G := ⟨_, rfl⟩
  have hkk : (l.length : Int) - m + G = k := by rw [← hG, sortI_len]; exact hk
  have HG := Aside0.mk hG
  have hp : wrap64 (2 ^ k) = ((2 ^ k : Nat) : Int) := by rw [wrap64_two (by omega), pow_cast]
  obtain ⟨P, hP⟩ : ∃ P, 2 ^ k = P := ⟨_, rfl⟩
  rw [hP] at hp ⊢
  clear hr h hk hG hP
  go_enter Try.func32, Try.ntmps32
  go_wp2_with (first
    | (go_at_call 46; refine (read_good HR.out HE.out).mono ?_; rintro e w1 ⟨rfl, hb1⟩; have HB1 := Aside0.mk (below_alloc hb1 (.cells #[.int .i64 (m : Int), .slice A l.length c] 59)); clear hb1)
    | (go_at_call 52; go_must (refine (groups_calls 60 anyT says_any m hm A c l HS.out (by omega) _ (Kd.C_below HR.out HB1.out)).mono ?_; rintro e w2 ⟨v2, rfl, hr2, hb2⟩; have HB2 := Aside0.mk (below_then HB1.out HB1.out.size hb2); obtain ⟨A2, c2, hv2, hc2, _⟩ := Kd.R_reads hr2; rw [HG.out] at hv2; subst hv2; clear hr2 hb2 hc2)))
  go_ret2
  rw [hp]
  exact ⟨rfl, HB2.out⟩
theorem feuds_Classes.calls (a0 : Int) (A1 : Option Addr) (c1 : Nat) (l1 : List S39) (r1 : Int) (r2 : Int) (w : World) (hr1 : Kd.C k39 w A1 l1.length l1) (_hc1 : l1.length ≤ c1) (h : feuds_Classes.f a0 l1 = some (r1, r2)) :
    Calls Try.prog 32 #[.int .i64 a0, .slice A1 l1.length c1] w fun e w' => e = .returned (.tuple #[.int .i64 r1, .int .i64 r2]) ∧ Below w.heap.size w w' := by
  unfold feuds_Classes.f at h
  by_cases h0 : tiesE a0 l1 = 0
  · rw [if_pos h0] at h
    have h1 := tiesE_parts h0
    obtain ⟨m, rfl⟩ : ∃ m : Nat, a0 = m := ⟨a0.toNat, by omega⟩
    rw [Int.toNat_natCast] at h
    by_cases hk : 0 ≤ classK m l1 ∧ classK m l1 ≤ 60
    · rw [if_pos hk] at h
      cases h
      exact Classes_good m A1 c1 l1 w hr1 h0 (classK m l1).toNat (by omega) (by omega)
    · rw [if_neg hk] at h; cases h
  · rw [if_neg h0] at h
    cases h
    exact Classes_err a0 A1 c1 l1 w hr1 _ rfl h0

/-! ### Clans -/
def bothB (t : S39) (x : Int) : Bool := x.toNat.testBit t.f0.toNat && x.toNat.testBit t.f1.toNat
def clashB (l : List S39) (G : List Int) (k : Nat) : Bool := (List.range k).any fun i => (l.getD i z39).f2 && G.any (bothB (l.getD i z39))
def clansF (n : Int) (l : List S39) : List Int × Int :=
  if tiesE n l = 0 then (if clashB l (sortI (groupsF friendB n.toNat l)) l.length = true then ([], 10) else (sortI (groupsF friendB n.toNat l), 0)) else ([], tiesE n l)
theorem clashB_succ (l : List S39) (G : List Int) (k : Nat) : clashB l G (k + 1) = (clashB l G k || ((l.getD k z39).f2 && G.any (bothB (l.getD k z39)))) := by
  unfold clashB
  rw [List.range_succ, List.any_append, List.any_cons, List.any_nil, Bool.or_false]

set_option maxRecDepth 100000 in
set_option maxHeartbeats 800000 in
theorem both_pred (a b : Nat) (f : Bool) (ha : a < 60) (hb : b < 60) (G : List Int) (hG : ∀ x ∈ G, 0 ≤ x ∧ x < 4611686018427387904) (g : Nat) (w : World) (hc : w.heap[g]? = some (.cells #[.int .i64 a, .int .i64 b, .bool f] 39 (0, 0))) :
    PredB 55 #[.pointer (some ⟨g, 0, none⟩)] (fun x => .int .i64 x) (bothB ⟨a, b, f⟩) G w := by
  intro W x hx hbl
  obtain ⟨h0, h1⟩ := hG x hx
  obtain ⟨y, rfl⟩ := Int.eq_ofNat_of_zero_le h0
  obtain ⟨c0, c1, _, _, _, _⟩ := cells3 ((hbl.block _ (blk_lt hc)).trans hc)
  have HB := Aside0.mk hbl
  have ea := bit_ask (y := y) (k := a) (by omega) (by omega)
  have eb := bit_ask (y := y) (k := b) (by omega) (by omega)
  have hv : bothB ⟨a, b, f⟩ (y : Int) = (y.testBit a && y.testBit b) := by unfold bothB; dsimp only; rw [Int.toNat_natCast, Int.toNat_natCast, Int.toNat_natCast]
  rw [hv]
  show Calls Try.prog 55 #[.int .i64 y, .pointer (some ⟨g, 0, none⟩)] W fun e w' => e = .returned (.bool (y.testBit a && y.testBit b)) ∧ Below w.heap.size w w'
  clear hbl hc hx hG hv
  cases h1 : y.testBit a with
  | false =>
    rw [h1] at ea
    go_enter Try.func55, Try.ntmps55
    go_wp2
    go_ret
    exact ⟨rfl, HB.out⟩
  | true =>
    rw [h1] at ea
    go_enter Try.func55, Try.ntmps55
    go_wp2
    go_ret
    exact ⟨rfl, HB.out⟩
end Go.Proofs.Ytaegldcifhgnmaa.A

/- Clans: its walk. -/
namespace Go.Proofs.Ytaegldcifhgnmaa.A
open Go.RowKit Go.Proofs.YtaegldcifhgnmaaW.PrintWords Go.Proofs.YtaegldcifhgnmaaW.PrintMore
theorem groupsL_mem {q : S39 → Bool} {n : Nat} {l : List S39} (hl : okN n l) : ∀ (f left : Nat), left < 2 ^ n → ∀ x ∈ groupsL q n l f left, ∃ y : Nat, x = y ∧ y < 2 ^ n
  | 0, _, _, x, hx => by cases hx
  | f + 1, left, h, x, hx => by
    rw [groupsL] at hx
    by_cases h0 : left = 0
    · rw [if_pos h0] at hx; cases hx
    · rw [if_neg h0] at hx
      rcases List.mem_cons.1 hx with rfl | hx
      · exact ⟨_, rfl, spread_lt hl (lowB_lt h) n⟩
      · exact groupsL_mem hl f _ (less_lt h) x hx
theorem groupsF_mem {q : S39 → Bool} {n : Nat} {l : List S39} (hl : okN n l) {x : Int} (hx : x ∈ groupsF q n l) : ∃ y : Nat, x = y ∧ y < 2 ^ n :=
  groupsL_mem hl _ _ (by have := Nat.two_pow_pos n; omega) x hx
theorem sortI_mem {l : List Int} {x : Int} : x ∈ sortI l ↔ x ∈ l := List.mem_mergeSort

set_option maxRecDepth 100000 in
set_option maxHeartbeats 800000 in
theorem Clans_err (n : Int) (A : Option Addr) (c : Nat) (l : List S39) (w : World) (hr : Kd.C k39 w A l.length l) (E : Int) (h : tiesE n l = E) (h0 : E ≠ 0) :
    Calls Try.prog 26 #[.int .i64 n, .slice A l.length c] w (FoundPost ([], E) w) := by
  have HR := Aside0.mk hr
  have HE := Aside0.mk h
  have hg := errne h0
  have H0 := Aside0.mk h0
  clear hr h h0
  go_enter Try.func26, Try.ntmps26
  go_wp2_with (go_at_call 46; refine (read_err HR.out HE.out H0.out).mono ?_; rintro e w' ⟨rfl, hb'⟩; have HB := Aside0.mk hb'; clear hb')
  go_ret2
  exact ⟨_, rfl, Kd.R_nil _ _ _ _ _, below_alloc HB.out _⟩

set_option maxRecDepth 100000 in
set_option maxHeartbeats 1600000 in
theorem Clans_good (m : Nat) (A : Option Addr) (c : Nat) (l : List S39) (w : World) (hr : Kd.C k39 w A l.length l) (h : tiesE m l = 0) (G : List Int) (hG : sortI (groupsF friendB m l) = G) (Z : List Int × Int) (hZ : (if clashB l G l.length = true then ([], 10) else (G, 0)) = Z) :
    Calls Try.prog 26 #[.int .i64 m, .slice A l.length c] w (FoundPost Z w) := by
  have HZ := Aside0.mk hZ
  clear hZ
  have hm : m ≤ 8 := by have := (tiesE_parts h).1; omega
  have hl20 : l.length ≤ 20 := (tiesE_parts h).2.1
  have HR := Aside0.mk hr
  have HS := Aside0.mk (tiesE_ok h)
  have HSM := Aside0.mk (tiesE_small h)
  have HE := Aside0.mk h
  have HG := Aside0.mk hG
  have HM : Aside0 (∀ x ∈ G, 0 ≤ x ∧ x < 4611686018427387904) := ⟨fun x hx => by
    rw [← hG, sortI_mem] at hx
    obtain ⟨y, rfl, hy⟩ := groupsF_mem (tiesE_ok h) hx
    have := pow8 hm
    omega⟩
  clear hr h hG
  go_enter Try.func26, Try.ntmps26
  go_wp2_with (first
    | (go_at_call 46; refine (read_good HR.out HE.out).mono ?_; rintro e w1 ⟨rfl, hb1⟩; have HB1 := Aside0.mk (below_alloc hb1 (.cells #[.int .i64 (m : Int), .slice A l.length c] 59)); clear hb1)
    | (go_at_call 52; go_must (refine (groups_calls 53 friendB says_friend m hm A c l HS.out (by omega) _ (Kd.C_below HR.out HB1.out)).mono ?_; rw [HG.out]; rintro e w2 ⟨v2, rfl, hr2, hb2⟩; obtain ⟨A2, c2, rfl, hc2, _⟩ := Kd.R_reads hr2; have HI0 : Aside0 (Below w.heap.size w w2 ∧ Kd.R (Kd.int .i64) 3 w2 w.heap.size (fun _ => True) (.slice A2 G.length c2) G) := ⟨below_then HB1.out HB1.out.size hb2, Kd.R_lower hr2 HB1.out.size⟩; clear hr2 hb2 hc2)))
  go_loopg [10, 24] l.length (fun gg _ v24 wr => ∃ i : Nat, i ≤ l.length ∧ l.length - i ≤ gg ∧ v24 = .int .i64 i ∧ Aside0 (Below w.heap.size w wr ∧ Kd.R (Kd.int .i64) 3 wr w.heap.size (fun _ => True) (.slice A2 G.length c2) G) ∧ Aside0 (clashB l G i = false))
  case atStart => exact ⟨0, Nat.zero_le _, by omega, rfl, HI0, ⟨rfl⟩⟩
  case round =>
    clear HI0
    obtain ⟨i, hi, hgg, rfl, HI, HC⟩ := hrel
    by_cases hlt : i < l.length
    · have hltz : (i : Int) < (l.length : Int) := by omega
      obtain ⟨ad, rfl, hx0, hx1, hx2⟩ := at_T39 (Kd.C_below HR.out HI.out.1) (i : Int) (by omega) (by omega)
      rw [Int.toNat_natCast] at hx0 hx1 hx2
      have hrd : rd_T39 l (i : Int) = l.getD i z39 := by simp [rd_T39]
      rw [hrd] at hx0 hx1 hx2
      have hts := HSM.out _ (getD_mem z39 hlt)
      have hsu := clashB_succ l G i
      generalize hy : l.getD i z39 = t at hx0 hx1 hx2 hts hsu
      obtain ⟨a, b, f⟩ := t
      dsimp only at hx0 hx1 hx2 hts
      obtain ⟨h1, h2, h3, h4⟩ := hts
      obtain ⟨a, rfl⟩ := Int.eq_ofNat_of_zero_le h1
      obtain ⟨b, rfl⟩ := Int.eq_ofNat_of_zero_le h3
      have HSU := Aside0.mk hsu
      have HY := Aside0.mk hy
      have hb8 : Aside0 (Below wr.heap.size wr (wr.alloc (.cells #[.int .i64 a, .int .i64 b, .bool f] 39))) := ⟨below_alloc (Below.refl _ _) _⟩
      have hc8 : Aside0 ((wr.alloc (.cells #[.int .i64 a, .int .i64 b, .bool f] 39)).heap[wr.heap.size]? = some (.cells #[.int .i64 a, .int .i64 b, .bool f] 39 (0, 0))) := ⟨heap_alloc_new _ _⟩
      clear hrd hy hsu h1 h3
      cases f with
      | false =>
        go_wp2
        go_roundg (l.length - (i + 1))
        case measure => omega
        case rel => exact ⟨i + 1, by omega, by omega, by go_num, ⟨below_then HI.out.1 HI.out.1.size hb8.out, Kd.R_below HI.out.2 hb8.out⟩, ⟨by rw [HSU.out, HC.out]; rfl⟩⟩
      | true =>
        have hrr := Aside0.mk (Kd.R_reads' HI.out.2).2.2
        cases hq : G.any (bothB ⟨a, b, true⟩) with
        | false =>
          have HQ := Aside0.mk hq
          clear hq
          go_wp2_with (go_at_call 54; go_must (refine (ContainsFunc_int 55 #[.pointer (some ⟨wr.heap.size, 0, none⟩)] (bothB ⟨a, b, true⟩) enters55 A2 G.length c2 G _ (Kd.C_below hrr.out hb8.out) (both_pred a b true (by omega) (by omega) G HM.out wr.heap.size _ hc8.out)).mono ?_; rw [HQ.out]; rintro e w3 ⟨rfl, hb3⟩; have HB3 := Aside0.mk (below_then hb8.out hb8.out.size hb3); clear hb3))
          go_roundg (l.length - (i + 1))
          case measure => omega
          case rel => exact ⟨i + 1, by omega, by omega, by go_num, ⟨below_then HI.out.1 HI.out.1.size HB3.out, Kd.R_below HI.out.2 HB3.out⟩, ⟨by rw [HSU.out, HC.out, HQ.out]; rfl⟩⟩
        | true =>
          have HQ := Aside0.mk hq
          have HCL : Aside0 (clashB l G l.length = true) := ⟨by
            unfold clashB
            rw [List.any_eq_true]
            refine ⟨i, List.mem_range.2 hlt, ?_⟩
            rw [HY.out, hq]; rfl⟩
          clear hq
          go_wp2_with (go_at_call 54; go_must (refine (ContainsFunc_int 55 #[.pointer (some ⟨wr.heap.size, 0, none⟩)] (bothB ⟨a, b, true⟩) enters55 A2 G.length c2 G _ (Kd.C_below hrr.out hb8.out) (both_pred a b true (by omega) (by omega) G HM.out wr.heap.size _ hc8.out)).mono ?_; rw [HQ.out]; rintro e w3 ⟨rfl, hb3⟩; have HB3 := Aside0.mk (below_then hb8.out hb8.out.size hb3); clear hb3))
          go_ret2
          rw [← HZ.out, if_pos HCL.out]
          exact ⟨_, rfl, Kd.R_nil _ _ _ _ _, below_then HI.out.1 HI.out.1.size HB3.out⟩
    · have hltz : ¬ (i : Int) < (l.length : Int) := by omega
      have hie : i = l.length := by omega
      have HCL : Aside0 (¬ clashB l G l.length = true) := ⟨by rw [← hie, HC.out]; simp⟩
      clear hie
      go_wp2
      go_ret2
      rw [← HZ.out, if_neg HCL.out]
      exact ⟨_, rfl, HI.out.2, HI.out.1⟩

def feuds_Clans.f (a0 : Int) (l1 : List S39) : Option (List Int × Int) := some (clansF a0 l1)
theorem feuds_Clans.calls (a0 : Int) (A1 : Option Addr) (c1 : Nat) (l1 : List S39) (r1 : List Int) (r2 : Int) (w : World) (hr1 : Kd.C k39 w A1 l1.length l1) (_hc1 : l1.length ≤ c1) (h : feuds_Clans.f a0 l1 = some (r1, r2)) :
    Calls Try.prog 26 #[.int .i64 a0, .slice A1 l1.length c1] w fun e w' => ∃ v0_ : Value, e = .returned (.tuple #[v0_, .int .i64 r2]) ∧ Kd.R (Kd.int .i64) 3 w' w.heap.size (fun _ => True) v0_ r1 ∧ Below w.heap.size w w' := by
  have h := Option.some.inj h
  have : Calls Try.prog 26 #[.int .i64 a0, .slice A1 l1.length c1] w (FoundPost (clansF a0 l1) w) := by
    unfold clansF
    by_cases h0 : tiesE a0 l1 = 0
    · have h1 := tiesE_parts h0
      obtain ⟨m, rfl⟩ : ∃ m : Nat, a0 = m := ⟨a0.toNat, by omega⟩
      rw [if_pos h0, Int.toNat_natCast]
      exact Clans_good m A1 c1 l1 w hr1 h0 _ rfl _ rfl
    · rw [if_neg h0]
      exact Clans_err a0 A1 c1 l1 w hr1 _ rfl h0
  rw [h] at this
  exact this
end Go.Proofs.Ytaegldcifhgnmaa.A

/- What the program returns for three drovers, all at feud. -/
namespace Go.Proofs.Ytaegldcifhgnmaa.A
open Go.RowKit Go.Proofs.YtaegldcifhgnmaaW.PrintWords Go.Proofs.YtaegldcifhgnmaaW.PrintMore
def threeL : List S39 := [⟨0, 1, true⟩, ⟨0, 2, true⟩, ⟨1, 2, true⟩]
def twoL : List S39 := [⟨0, 1, false⟩, ⟨0, 2, true⟩]
theorem three_Sides : feuds_Sides.f 3 threeL = some (0, 10) := by decide +kernel
theorem three_Ring : feuds_Ring.f 3 threeL = some ([0, 1, 2], 0) := by decide +kernel
theorem three_Least : feuds_Least.f 3 threeL = some (1, [2], 0) := by decide +kernel
theorem three_groups : groupsF friendB 3 threeL = [1, 2, 4] := by decide +kernel
theorem sort_124 : sortI [1, 2, 4] = [1, 2, 4] := by
  unfold sortI
  refine List.mergeSort_of_pairwise ?_
  simp
theorem three_Clans : feuds_Clans.f 3 threeL = some ([1, 2, 4], 0) := by
  have h0 : tiesE 3 threeL = 0 := by decide +kernel
  have h1 : clashB threeL [1, 2, 4] threeL.length = false := by decide +kernel
  unfold feuds_Clans.f clansF
  rw [if_pos h0, show (3 : Int).toNat = 3 from rfl, three_groups, sort_124, h1]
  rfl
theorem three_Classes : feuds_Classes.f 3 threeL = some (2, 0) := by decide +kernel
theorem two_Sides : feuds_Sides.f 3 twoL = some (3, 0) := by decide +kernel
end Go.Proofs.Ytaegldcifhgnmaa.A

/- alive: what every right program knows of three drovers. -/
namespace Go.Proofs.Ytaegldcifhgnmaa.B
open Go.Proofs.Ytaegldcifhgnmaa.A
open Go.RowKit Go.Proofs.YtaegldcifhgnmaaW.PrintWords Go.Proofs.YtaegldcifhgnmaaW.PrintMore
theorem same_calls {A : Option Addr} {c : Nat} {l : List Int} {A2 : Option Addr} {c2 : Nat} {l2 : List Int} {w : World} (hr : Kd.C (Kd.int .i64) w A l.length l) (hc : l.length ≤ c) (hr2 : Kd.C (Kd.int .i64) w A2 l2.length l2) (hc2 : l2.length ≤ c2) {r : Bool} (h : drovewaylaw09_same.f 10 l l2 = some r) :
    Calls Try.prog 22 #[.slice A l.length c, .slice A2 l2.length c2] w fun e w' => e = .returned (.bool r) ∧ Below w.heap.size w w' :=
  (drovewaylaw09_same.calls 10 A c l A2 c2 l2 r w hr hc hr2 hc2 h).mono fun _ _ ⟨a, b⟩ => ⟨a, b.below⟩

theorem three_calls (w : World) : Calls Try.prog 45 #[] w fun e w' => ∃ A c, e = .returned (.slice A 3 c) ∧ 3 ≤ c ∧ Kd.C k39 w' A 3 threeL ∧ Below w.heap.size w w' :=
  (drovewaylaw09_three.calls threeL w rfl).mono fun _ _ ⟨v, h1, h2, h3⟩ => by
    obtain ⟨A, c, rfl, hc, hC⟩ := Kd.R_reads h2
    exact ⟨A, c, h1, hc, hC, h3⟩

def drovewaylaw09_alive.f : Option Bool := some true
theorem two_reads (W : World) : Kd.C k39 (W.alloc (.cells #[.int .i64 0, .int .i64 1, .bool false, .int .i64 0, .int .i64 2, .bool true] 39)) (some ⟨W.heap.size, 0, none⟩) 2 twoL := by
  refine ⟨rfl, by decide, fun _ => ⟨_, rfl, fun j p hj => ?_⟩⟩
  have hb := heap_alloc_new W (.cells #[.int .i64 0, .int .i64 1, .bool false, .int .i64 0, .int .i64 2, .bool true] 39)
  refine ⟨_, rfl, k39_mk _ p, fun i u hu => ?_⟩
  rw [add_plain, blk_cell hb]
  match j, hj, i, hu with
  | 0, hj, 0, hu => cases hj; exact hu
  | 0, hj, 1, hu => cases hj; exact hu
  | 0, hj, 2, hu => cases hj; exact hu
  | 1, hj, 0, hu => cases hj; exact hu
  | 1, hj, 1, hu => cases hj; exact hu
  | 1, hj, 2, hu => cases hj; exact hu

theorem lit_reads (W : World) (l : List Int) (hl : l.length ≤ 1000) : Kd.C (Kd.int .i64) (W.alloc (.cells (l.map fun x => Value.int .i64 x).toArray 3)) (some ⟨W.heap.size, 0, none⟩) l.length l := by
  have hb := heap_alloc_new W (.cells (l.map fun x => Value.int .i64 x).toArray 3)
  refine ⟨rfl, by omega, fun _ => ⟨_, rfl, fun j p hj => ⟨[.int .i64 p], rfl, rfl, fun i u hu => ?_⟩⟩⟩
  rw [add_plain, blk_cell hb]
  match i, hu with
  | 0, hu =>
    cases hu
    show (l.map fun x => Value.int .i64 x).toArray[j * 1 + 0]? = _
    rw [Nat.mul_one, Nat.add_zero, List.getElem?_toArray, List.getElem?_map, hj]; rfl

set_option maxRecDepth 100000 in
set_option maxHeartbeats 3200000 in
theorem alive_calls (w : World) : Calls Try.prog 17 #[] w fun e w' => e = .returned (.bool true) ∧ Below w.heap.size w w' := by
  have HB := Aside0.mk (Below.refl w.heap.size w)
  go_enter Try.func17, Try.ntmps17
  go_wp2_with fail
  refine (three_calls _).mono ?_
  rintro e w1a ⟨A1, c1, rfl, hc1, hC1, hb⟩
  have HC1 := Aside0.mk hC1; have Hc1 := Aside0.mk hc1; have HB1 := Aside0.mk (below_then HB.out HB.out.size hb); clear hC1 hc1 hb
  go_wp2_with fail
  refine (feuds_Sides.calls 3 A1 c1 threeL 0 10 _ HC1.out Hc1.out three_Sides).mono ?_
  rintro e w1b ⟨rfl, hb⟩; have HB2 := Aside0.mk (below_then HB1.out HB1.out.size hb); clear hb HC1 Hc1
  go_wp2_with fail
  refine (three_calls _).mono ?_
  rintro e w2a ⟨A2, c2, rfl, hc2, hC2, hb⟩
  have HC2 := Aside0.mk hC2; have Hc2 := Aside0.mk hc2; have HB3 := Aside0.mk (below_then HB2.out HB2.out.size hb); clear hC2 hc2 hb
  go_wp2_with fail
  refine (feuds_Ring.calls 3 A2 c2 threeL [0, 1, 2] 0 _ HC2.out Hc2.out three_Ring).mono ?_
  rintro e w2b ⟨v, rfl, hr, hb⟩; obtain ⟨AR, cR, rfl, hcR, hRR⟩ := Kd.R_reads hr; have HcR := Aside0.mk hcR; have HRR := Aside0.mk hRR; have HB4 := Aside0.mk (below_then HB3.out HB3.out.size hb); clear hb HC2 Hc2 hr hcR hRR
  go_wp2_with fail
  refine (three_calls _).mono ?_
  rintro e w3a ⟨A3, c3, rfl, hc3, hC3, hb⟩
  have HC3 := Aside0.mk hC3; have Hc3 := Aside0.mk hc3; have HB5 := Aside0.mk (below_then HB4.out HB4.out.size hb); have HRR' := Aside0.mk (Kd.C_below HRR.out hb); clear HRR; have HRR := HRR'; clear HRR'; clear hC3 hc3 hb
  go_wp2_with fail
  refine (feuds_Least.calls 3 A3 c3 threeL 1 [2] 0 _ HC3.out Hc3.out three_Least).mono ?_
  rintro e w3b ⟨v, rfl, hr, hb⟩; obtain ⟨AL, cL, rfl, hcL, hLL⟩ := Kd.R_reads hr; have HcL := Aside0.mk hcL; have HLL := Aside0.mk hLL; have HB6 := Aside0.mk (below_then HB5.out HB5.out.size hb); have HRR' := Aside0.mk (Kd.C_below HRR.out hb); clear HRR; have HRR := HRR'; clear HRR'; clear hb HC3 Hc3 hr hcL hLL
  go_wp2_with fail
  refine (three_calls _).mono ?_
  rintro e w4a ⟨A4, c4, rfl, hc4, hC4, hb⟩
  have HC4 := Aside0.mk hC4; have Hc4 := Aside0.mk hc4; have HB7 := Aside0.mk (below_then HB6.out HB6.out.size hb); have HRR' := Aside0.mk (Kd.C_below HRR.out hb); clear HRR; have HRR := HRR'; clear HRR'; have HLL' := Aside0.mk (Kd.C_below HLL.out hb); clear HLL; have HLL := HLL'; clear HLL'; clear hC4 hc4 hb
  go_wp2_with fail
  refine (feuds_Clans.calls 3 A4 c4 threeL [1, 2, 4] 0 _ HC4.out Hc4.out three_Clans).mono ?_
  rintro e w4b ⟨v, rfl, hr, hb⟩; obtain ⟨AC, cC, rfl, hcC, hCC⟩ := Kd.R_reads hr; have HcC := Aside0.mk hcC; have HCC := Aside0.mk hCC; have HB8 := Aside0.mk (below_then HB7.out HB7.out.size hb); have HRR' := Aside0.mk (Kd.C_below HRR.out hb); clear HRR; have HRR := HRR'; clear HRR'; have HLL' := Aside0.mk (Kd.C_below HLL.out hb); clear HLL; have HLL := HLL'; clear HLL'; clear hb HC4 Hc4 hr hcC hCC
  go_wp2_with fail
  refine (three_calls _).mono ?_
  rintro e w5a ⟨A5, c5, rfl, hc5, hC5, hb⟩
  have HC5 := Aside0.mk hC5; have Hc5 := Aside0.mk hc5; have HB9 := Aside0.mk (below_then HB8.out HB8.out.size hb); have HRR' := Aside0.mk (Kd.C_below HRR.out hb); clear HRR; have HRR := HRR'; clear HRR'; have HLL' := Aside0.mk (Kd.C_below HLL.out hb); clear HLL; have HLL := HLL'; clear HLL'; have HCC' := Aside0.mk (Kd.C_below HCC.out hb); clear HCC; have HCC := HCC'; clear HCC'; clear hC5 hc5 hb
  go_wp2_with fail
  refine (feuds_Classes.calls 3 A5 c5 threeL 2 0 _ HC5.out Hc5.out three_Classes).mono ?_
  rintro e w5b ⟨rfl, hb⟩; have HB10 := Aside0.mk (below_then HB9.out HB9.out.size hb); have HRR' := Aside0.mk (Kd.C_below HRR.out hb); clear HRR; have HRR := HRR'; clear HRR'; have HLL' := Aside0.mk (Kd.C_below HLL.out hb); clear HLL; have HLL := HLL'; clear HLL'; have HCC' := Aside0.mk (Kd.C_below HCC.out hb); clear HCC; have HCC := HCC'; clear HCC'; clear hb HC5 Hc5
  go_wp2_with fail
  refine (feuds_Sides.calls 3 _ 2 twoL 3 0 _ (two_reads w5b) (Nat.le_refl 2) two_Sides).mono ?_
  rintro e w6b ⟨rfl, hb0⟩; have hb := below_then (below_alloc (Below.refl w5b.heap.size w5b) (.cells #[.int .i64 0, .int .i64 1, .bool false, .int .i64 0, .int .i64 2, .bool true] 39)) (below_alloc (Below.refl w5b.heap.size w5b) (.cells #[.int .i64 0, .int .i64 1, .bool false, .int .i64 0, .int .i64 2, .bool true] 39)).size hb0; have HB11 := Aside0.mk (below_then HB10.out HB10.out.size hb); have HRR' := Aside0.mk (Kd.C_below HRR.out hb); clear HRR; have HRR := HRR'; clear HRR'; have HLL' := Aside0.mk (Kd.C_below HLL.out hb); clear HLL; have HLL := HLL'; clear HLL'; have HCC' := Aside0.mk (Kd.C_below HCC.out hb); clear HCC; have HCC := HCC'; clear HCC'; clear hb hb0
  go_wp2_with fail
  have hlit := lit_reads w6b [0, 1, 2] (by decide)
  refine (same_calls (l := [0, 1, 2]) (l2 := [0, 1, 2]) (Kd.C_below HRR.out (below_alloc (Below.refl _ _) _)) HcR.out hlit (Nat.le_refl _) (r := true) (by kernel_rfl)).mono ?_
  rintro e w7b ⟨rfl, hb0⟩; have hb := below_then (below_alloc (Below.refl w6b.heap.size w6b) (.cells #[.int .i64 0, .int .i64 1, .int .i64 2] 3)) (below_alloc (Below.refl w6b.heap.size w6b) (.cells #[.int .i64 0, .int .i64 1, .int .i64 2] 3)).size hb0; have HB12 := Aside0.mk (below_then HB11.out HB11.out.size hb); have HRR' := Aside0.mk (Kd.C_below HRR.out hb); clear HRR; have HRR := HRR'; clear HRR'; have HLL' := Aside0.mk (Kd.C_below HLL.out hb); clear HLL; have HLL := HLL'; clear HLL'; have HCC' := Aside0.mk (Kd.C_below HCC.out hb); clear HCC; have HCC := HCC'; clear HCC'; clear hb hb0 hlit
  go_wp2_with fail
  have hlit := lit_reads w7b [2] (by decide)
  refine (same_calls (l := [2]) (l2 := [2]) (Kd.C_below HLL.out (below_alloc (Below.refl _ _) _)) HcL.out hlit (Nat.le_refl _) (r := true) (by kernel_rfl)).mono ?_
  rintro e w8b ⟨rfl, hb0⟩; have hb := below_then (below_alloc (Below.refl w7b.heap.size w7b) (.cells #[.int .i64 2] 3)) (below_alloc (Below.refl w7b.heap.size w7b) (.cells #[.int .i64 2] 3)).size hb0; have HB13 := Aside0.mk (below_then HB12.out HB12.out.size hb); have HLL' := Aside0.mk (Kd.C_below HLL.out hb); clear HLL; have HLL := HLL'; clear HLL'; have HCC' := Aside0.mk (Kd.C_below HCC.out hb); clear HCC; have HCC := HCC'; clear HCC'; clear hb hb0 hlit
  go_wp2_with fail
  have hlit := lit_reads w8b [1, 2, 4] (by decide)
  refine (same_calls (l := [1, 2, 4]) (l2 := [1, 2, 4]) (Kd.C_below HCC.out (below_alloc (Below.refl _ _) _)) HcC.out hlit (Nat.le_refl _) (r := true) (by kernel_rfl)).mono ?_
  rintro e w9b ⟨rfl, hb0⟩; have hb := below_then (below_alloc (Below.refl w8b.heap.size w8b) (.cells #[.int .i64 1, .int .i64 2, .int .i64 4] 3)) (below_alloc (Below.refl w8b.heap.size w8b) (.cells #[.int .i64 1, .int .i64 2, .int .i64 4] 3)).size hb0; have HB14 := Aside0.mk (below_then HB13.out HB13.out.size hb); have HLL' := Aside0.mk (Kd.C_below HLL.out hb); clear HLL; have HLL := HLL'; clear HLL'; have HCC' := Aside0.mk (Kd.C_below HCC.out hb); clear HCC; have HCC := HCC'; clear HCC'; clear hb hb0 hlit
  go_wp2_with fail
  go_ret
  exact ⟨rfl, HB14.out⟩
end Go.Proofs.Ytaegldcifhgnmaa.B

/- What the law package's own small functions and the reference's Ties compute (plain). -/
namespace Go.Proofs.Ytaegldcifhgnmaa.B
open Go.Proofs.Ytaegldcifhgnmaa.A
open Go.RowKit Go.Proofs.YtaegldcifhgnmaaW.PrintWords Go.Proofs.YtaegldcifhgnmaaW.PrintMore
theorem few_eq (l : List S39) (r : List Int) : drovewaylaw09_few.f l r = some (decide (l.length ≤ 60 ∧ r.length ≤ 60)) := by
  unfold drovewaylaw09_few.f
  by_cases h1 : (l.length : Int) ≤ 60
  · rw [if_pos h1]
    congr 1
    rw [decide_eq_decide]
    omega
  · rw [if_neg h1]
    congr 1
    symm
    rw [decide_eq_false_iff_not]
    omega
theorem wrapS {i n : Nat} (h : i < n) (hn : n ≤ 140737488351232) : wrap64 ((i : Int) + 1) = ((i + 1 : Nat) : Int) := by rw [wrap64_id] <;> omega

/-! ### same -/
theorem same_l0 (l : List Int) (hl : l.length ≤ 140737488351232) : ∀ n i, l.length - i = n → i ≤ l.length → Ev (fun k => drovewaylaw09_same.l0 k l l (i : Int)) true := by
  intro n
  induction n with
  | zero =>
    intro i hn hi
    refine Ev.step (f := fun _ => some true) (fun k => ?_) (Ev.now _)
    rw [drovewaylaw09_same.l0, if_neg (by omega)]
  | succ n ih =>
    intro i hn hi
    refine Ev.step (fun k => ?_) (ih (i + 1) (by omega) (by omega))
    rw [drovewaylaw09_same.l0, if_pos (by omega), if_pos (by omega), if_pos (by omega), if_pos rfl, wrapS (show i < l.length by omega) hl]
theorem same_ev {l l' : List Int} (hl : l.length ≤ 140737488351232) (h : l = l') : Ev (fun k => drovewaylaw09_same.f k l l') true := by
  subst h
  refine Ev.congr (fun k => ?_) (same_l0 l hl _ 0 rfl (Nat.zero_le _))
  unfold drovewaylaw09_same.f
  rw [if_pos rfl]
  rfl

/-! ### Ties -/
theorem rdT (l : List S39) (i : Nat) : rd_T39 l (i : Int) = l.getD i z39 := by simp [rd_T39]

section
variable {n : Int} {l : List S39}
theorem ties_l1_ok (hl : l.length ≤ 1000) {i : Nat} (hi : i < l.length) {r : Int} (h : Ev (fun k => drovewayref09_Ties.l0 k n l ((i + 1 : Nat) : Int)) r) (hp : ∀ j, j < i → pairT (l.getD j z39) ≠ pairT (l.getD i z39)) : ∀ m j, i - j = m → j ≤ i → Ev (fun k => drovewayref09_Ties.l1 k n l (i : Int) (j : Int)) r := by
  intro m
  induction m with
  | zero =>
    intro j hm hj
    refine Ev.step (fun k => ?_) h
    rw [drovewayref09_Ties.l1, if_neg (by omega), wrapS hi (by omega)]
  | succ m ih =>
    intro j hm hj
    refine Ev.step (fun k => ?_) (ih (j + 1) (by omega) (by omega))
    have hne := hp j (by omega)
    rw [drovewayref09_Ties.l1, if_pos (by omega), if_pos (by omega), if_pos (by omega), if_pos (by omega), if_pos (by omega), rdT, rdT, wrapS (show j < l.length by omega) (by omega)]
    by_cases h0 : (l.getD j z39).f0 = (l.getD i z39).f0
    · rw [if_pos h0, if_neg (fun h1 => hne (by unfold pairT; rw [h0, h1]))]
    · rw [if_neg h0]
theorem ties_l1_bad (hl : l.length ≤ 1000) {i q : Nat} (hi : i < l.length) (hq : q < i) (he : pairT (l.getD q z39) = pairT (l.getD i z39)) : ∀ m j, q - j = m → j ≤ q → Ev (fun k => drovewayref09_Ties.l1 k n l (i : Int) (j : Int)) 2 := by
  intro m
  induction m with
  | zero =>
    intro j hm hj
    obtain rfl : j = q := by omega
    unfold pairT at he
    rw [Prod.mk.injEq] at he
    refine Ev.step (f := fun _ => some 2) (fun k => ?_) (Ev.now _)
    rw [drovewayref09_Ties.l1, if_pos (by omega), if_pos (by omega), if_pos (by omega), if_pos (by omega), if_pos (by omega), rdT, rdT, if_pos he.1, if_pos he.2]
  | succ m ih =>
    intro j hm hj
    have h2 := ih (j + 1) (by omega) (by omega)
    by_cases h : pairT (l.getD j z39) = pairT (l.getD i z39)
    · unfold pairT at h
      rw [Prod.mk.injEq] at h
      refine Ev.step (f := fun _ => some 2) (fun k => ?_) (Ev.now _)
      rw [drovewayref09_Ties.l1, if_pos (by omega), if_pos (by omega), if_pos (by omega), if_pos (by omega), if_pos (by omega), rdT, rdT, if_pos h.1, if_pos h.2]
    · refine Ev.step (fun k => ?_) h2
      rw [drovewayref09_Ties.l1, if_pos (by omega), if_pos (by omega), if_pos (by omega), if_pos (by omega), if_pos (by omega), rdT, rdT, wrapS (show j < l.length by omega) (by omega)]
      by_cases h0 : (l.getD j z39).f0 = (l.getD i z39).f0
      · rw [if_pos h0, if_neg (fun h1 => h (by unfold pairT; rw [h0, h1]))]
      · rw [if_neg h0]
theorem ties_l0_in {i : Nat} (hi : i < l.length) (k : Nat) : drovewayref09_Ties.l0 (k + 1) n l (i : Int) = drovewayref09_Ties.j2 k n l (i : Int) (!okT n (l.getD i z39)) := by
  rw [drovewayref09_Ties.l0, if_pos (by omega), if_pos (by omega), rdT]
  unfold okT
  by_cases h0 : (l.getD i z39).f0 < 0
  · rw [if_pos h0]
    congr 1
    rw [decide_eq_false (by omega)]; rfl
  · rw [if_neg h0]
    by_cases h1 : (l.getD i z39).f0 ≥ (l.getD i z39).f1
    · rw [if_pos h1]
      congr 1
      rw [decide_eq_false (p := (l.getD i z39).f0 < (l.getD i z39).f1) (by omega), Bool.and_false]; rfl
    · rw [if_neg h1]
      congr 1
      rw [decide_eq_true (p := 0 ≤ (l.getD i z39).f0) (by omega), decide_eq_true (p := (l.getD i z39).f0 < (l.getD i z39).f1) (by omega), Bool.true_and, Bool.true_and, ← decide_not, decide_eq_decide]
      omega
theorem ties_step (hl : l.length ≤ 1000) {i : Nat} (hi : i < l.length) (hok : okAt n l i = true) {r : Int} (h : Ev (fun k => drovewayref09_Ties.l0 k n l ((i + 1 : Nat) : Int)) r) : Ev (fun k => drovewayref09_Ties.l0 k n l (i : Int)) r := by
  refine Ev.step (f := fun k => drovewayref09_Ties.j2 k n l (i : Int) (!okT n (l.getD i z39))) (fun k => ties_l0_in hi k) ?_
  unfold okAt at hok
  rw [Bool.and_eq_true] at hok
  rw [hok.1]
  have hp : ∀ j, j < i → pairT (l.getD j z39) ≠ pairT (l.getD i z39) := by
    intro j hj e
    have h2 := hok.2
    rw [Bool.not_eq_true', List.contains_eq_mem, decide_eq_false_iff_not] at h2
    apply h2
    rw [← e]
    refine List.mem_map.2 ⟨l.getD j z39, ?_, rfl⟩
    rw [List.mem_iff_getElem]
    exact ⟨j, by rw [List.length_take]; omega, by rw [List.getElem_take, List.getD_eq_getElem?_getD, List.getElem?_eq_getElem (by omega)]; rfl⟩
  refine Ev.step (fun k => ?_) (ties_l1_ok hl hi h hp i 0 (by omega) (Nat.zero_le _))
  rw [drovewayref09_Ties.j2]
  rfl
theorem ties_stop (hl : l.length ≤ 1000) {i : Nat} (hi : i < l.length) (hok : okAt n l i = false) : Ev (fun k => drovewayref09_Ties.l0 k n l (i : Int)) 2 := by
  refine Ev.step (f := fun k => drovewayref09_Ties.j2 k n l (i : Int) (!okT n (l.getD i z39))) (fun k => ties_l0_in hi k) ?_
  unfold okAt at hok
  cases ho : okT n (l.getD i z39) with
  | false =>
    exact Ev.step (f := fun _ => some 2) (fun k => by rw [drovewayref09_Ties.j2]; rfl) (Ev.now _)
  | true =>
    rw [ho, Bool.true_and, Bool.not_eq_false', List.contains_eq_mem, decide_eq_true_iff] at hok
    obtain ⟨t, ht, e⟩ := List.mem_map.1 hok
    obtain ⟨q, hq, rfl⟩ := List.mem_iff_getElem.1 ht
    rw [List.length_take] at hq
    rw [List.getElem_take] at e
    have e2 : pairT (l.getD q z39) = pairT (l.getD i z39) := by rw [← e, List.getD_eq_getElem?_getD, List.getElem?_eq_getElem (by omega)]; rfl
    refine Ev.step (fun k => ?_) (ties_l1_bad (n := n) hl hi (show q < i by omega) e2 q 0 (by omega) (Nat.zero_le _))
    rw [drovewayref09_Ties.j2]
    rfl
theorem ties_l0 (hl : l.length ≤ 1000) : ∀ m i, l.length - i = m → i ≤ l.length → (∀ j, j < i → okAt n l j = true) → Ev (fun k => drovewayref09_Ties.l0 k n l (i : Int)) (if okTies n l = true then 0 else 2) := by
  intro m
  induction m with
  | zero =>
    intro i hm hi hall
    refine Ev.step (f := fun _ => some 0) (fun k => ?_) ?_
    · rw [drovewayref09_Ties.l0, if_neg (by omega)]
    · rw [if_pos (okTies_yes fun j hj => hall j (by omega))]
      exact Ev.now _
  | succ m ih =>
    intro i hm hi hall
    cases hok : okAt n l i with
    | true =>
      refine ties_step hl (by omega) hok (ih (i + 1) (by omega) (by omega) fun j hj => ?_)
      by_cases e : j = i
      · rw [e]; exact hok
      · exact hall j (by omega)
    | false =>
      have := okTies_no (show i < l.length by omega) hok
      rw [this]
      exact ties_stop hl (by omega) hok
theorem Ties_ev (hl : l.length ≤ 1000) : Ev (fun k => drovewayref09_Ties.f k n l) (tiesE n l) := by
  have h0 := ties_l0 (n := n) hl l.length 0 (by omega) (Nat.zero_le _) (fun j hj => absurd hj (Nat.not_lt_zero _))
  unfold tiesE
  by_cases h1 : n < 1 ∨ 8 < n
  · rw [if_pos h1]
    refine Ev.congr (g := fun k => drovewayref09_Ties.f k n l) (f := fun k => drovewayref09_Ties.j0 k n l true) (fun k => ?_) (Ev.step (f := fun _ => some 2) (fun k => by rw [drovewayref09_Ties.j0]; rfl) (Ev.now _))
    unfold drovewayref09_Ties.f
    by_cases h2 : n < 1
    · rw [if_pos h2]
    · rw [if_neg h2, decide_eq_true (by omega)]
  · rw [if_neg h1]
    refine Ev.congr (g := fun k => drovewayref09_Ties.f k n l) (f := fun k => drovewayref09_Ties.j0 k n l false) (fun k => ?_) ?_
    · unfold drovewayref09_Ties.f
      rw [if_neg (by omega), decide_eq_false (by omega)]
    · by_cases h2 : 20 < l.length
      · rw [if_pos h2]
        refine Ev.step (f := fun _ => some 3) (fun k => ?_) (Ev.now _)
        rw [drovewayref09_Ties.j0, if_neg (by decide), if_pos (by omega)]
      · rw [if_neg h2]
        refine Ev.step (fun k => ?_) h0
        rw [drovewayref09_Ties.j0, if_neg (by decide), if_neg (by omega)]
        rfl
end
end Go.Proofs.Ytaegldcifhgnmaa.B

/- Shifts of bits, plain. -/
namespace Go.Proofs.Ytaegldcifhgnmaa.B
open Go.Proofs.Ytaegldcifhgnmaa.A
open Go.RowKit Go.Proofs.YtaegldcifhgnmaaW.PrintWords Go.Proofs.YtaegldcifhgnmaaW.PrintMore
theorem shl_one {m : Nat} (h : m ≤ 60) : shl .i64 1 (m : Int) = ((2 ^ m : Nat) : Int) := by
  unfold shl
  have : min ((m : Int)).toNat IntKind.i64.bits = m := by
    have : IntKind.i64.bits = 64 := rfl
    omega
  rw [this, Int.one_mul, pow_cast]
  exact wrap64_nat _ (Int.natCast_nonneg _) (by exact_mod_cast two_lt (show m < 62 by omega))
end Go.Proofs.Ytaegldcifhgnmaa.B

/- The specification's search for a ring of a size: the walk. (Printed by gen_q4.py.) -/
namespace Go.Proofs.Ytaegldcifhgnmaa.B
open Go.Proofs.Ytaegldcifhgnmaa.A
open Go.RowKit Go.Proofs.YtaegldcifhgnmaaW.PrintWords Go.Proofs.YtaegldcifhgnmaaW.PrintMore
set_option linter.unusedSimpArgs false
theorem bit_ask (y a : Nat) : (((y : Int) / 2 ^ a).tmod 2 == 1) = y.testBit a := by
  have e : ((y : Int) / 2 ^ a) = ((y / 2 ^ a : Nat) : Int) := by simp
  rw [e, Int.tmod_eq_emod_of_nonneg (Int.natCast_nonneg _), Nat.testBit_eq_decide_div_mod_eq]
  by_cases h : y / 2 ^ a % 2 = 1
  · have : ((y / 2 ^ a : Nat) : Int) % 2 = 1 := by omega
    rw [this, decide_eq_true h]; rfl
  · have : ((y / 2 ^ a : Nat) : Int) % 2 = 0 := by omega
    rw [this, decide_eq_false h]; rfl
end Go.Proofs.Ytaegldcifhgnmaa.B

/- What the specification's Less computes (plain). -/
namespace Go.Proofs.Ytaegldcifhgnmaa.B
open Go.Proofs.Ytaegldcifhgnmaa.A
open Go.RowKit Go.Proofs.YtaegldcifhgnmaaW.PrintWords Go.Proofs.YtaegldcifhgnmaaW.PrintMore
theorem rdL (r : List Int) (i : Nat) : rd r (i : Int) = r.getD i 0 := by simp [rd]
theorem less_l0 (a b : List Int) (ha : a.length ≤ 1000) : ∀ d i, a.length - i = d → i ≤ a.length → i ≤ b.length → Ev (fun k => drovewayref09_Less.l0 k a b (i : Int)) (decide (cmpL (a.drop i) (b.drop i) < 0)) := by
  intro d
  induction d with
  | zero =>
    intro i hd hi hb
    have e : a.length = i := by omega
    refine Ev.step (f := fun k => drovewayref09_Less.j1 k a b (i : Int) false) (fun k => by rw [drovewayref09_Less.l0, if_neg (by omega)]) ?_
    refine Ev.step (f := fun _ => some (decide ((a.length : Int) < (b.length : Int)))) (fun k => by rw [drovewayref09_Less.j1, if_neg (by decide)]) ?_
    rw [cmpL_end e hb]
    by_cases h : (a.length : Int) < (b.length : Int)
    · rw [if_pos h, decide_eq_true h]; exact Ev.now _
    · rw [if_neg h, decide_eq_false h]; exact Ev.now _
  | succ d ih =>
    intro i hd hi hb
    have hlt : i < a.length := by omega
    by_cases hlb : i < b.length
    · refine Ev.step (f := fun k => drovewayref09_Less.j1 k a b (i : Int) true) (fun k => by rw [drovewayref09_Less.l0, if_pos (by omega), decide_eq_true (by omega)]) ?_
      rw [cmpL_drop hlt hlb]
      by_cases e : a.getD i 0 = b.getD i 0
      · rw [if_pos (by unfold cmpI; rw [e, if_neg (by omega), if_neg (by omega)])]
        refine Ev.step (fun k => ?_) (ih (i + 1) (by omega) (by omega) (by omega))
        rw [drovewayref09_Less.j1, if_pos rfl, if_pos (by omega), if_pos (by omega), if_pos (by omega), rdL, rdL, if_pos e, wrapS hlt (by omega)]
      · have hz : ¬ cmpI (a.getD i 0) (b.getD i 0) = 0 := by
          unfold cmpI
          split
          · omega
          · split <;> omega
        rw [if_neg hz]
        refine Ev.step (f := fun _ => some (decide (cmpI (a.getD i 0) (b.getD i 0) < 0))) (fun k => ?_) (Ev.now _)
        rw [drovewayref09_Less.j1, if_pos rfl, if_pos (by omega), if_pos (by omega), if_pos (by omega), rdL, rdL, if_neg e]
        congr 1
        rw [decide_eq_decide]
        unfold cmpI
        split
        · omega
        · split <;> omega
    · refine Ev.step (f := fun k => drovewayref09_Less.j1 k a b (i : Int) false) (fun k => by rw [drovewayref09_Less.l0, if_pos (by omega), decide_eq_false (by omega)]) ?_
      refine Ev.step (f := fun _ => some (decide ((a.length : Int) < (b.length : Int)))) (fun k => by rw [drovewayref09_Less.j1, if_neg (by decide)]) ?_
      rw [cmpL_gt hlt (by omega), decide_eq_false (by omega : ¬ (1 : Int) < 0), decide_eq_false (by omega)]
      exact Ev.now _
theorem less_ev (a b : List Int) (ha : a.length ≤ 1000) : Ev (fun k => drovewayref09_Less.f k a b) (lessB a b) :=
  less_l0 a b ha a.length 0 rfl (Nat.zero_le _) (Nat.zero_le _)
end Go.Proofs.Ytaegldcifhgnmaa.B

/- The specification's put: a row is put into an ascending list of rows. -/
namespace Go.Proofs.Ytaegldcifhgnmaa.B
open Go.Proofs.Ytaegldcifhgnmaa.A
open Go.RowKit Go.Proofs.YtaegldcifhgnmaaW.PrintWords Go.Proofs.YtaegldcifhgnmaaW.PrintMore
def Asc (xs : List RowT) : Prop := xs.Pairwise fun x y => cmpL x.2 y.2 ≤ 0
theorem less_rows {w : World} {g1 c1 g2 c2 : Nat} {a b : List Int} (h1 : RowOk w ((g1, c1), a)) (h2 : RowOk w ((g2, c2), b)) (X : Bool) (hX : lessB a b = X) :
    Calls Try.prog 41 #[.slice (some ⟨g1, 0, none⟩) a.length c1, .slice (some ⟨g2, 0, none⟩) b.length c2] w fun e w' => e = .returned (.bool X) ∧ Below w.heap.size w w' := by
  obtain ⟨k, hk⟩ := (less_ev a b h1.2.1).rounds
  rw [hX] at hk
  exact (drovewayref09_Less.calls k _ c1 a _ c2 b X w h1.2.2.2.2 h1.2.2.1 h2.2.2.2.2 h2.2.2.1 hk).mono fun _ _ ⟨p, q⟩ => ⟨p, q.below⟩

end Go.Proofs.Ytaegldcifhgnmaa.B

/- The specification's search for rings: the walk. (Printed by gen_x1.py.) -/
namespace Go.Proofs.Ytaegldcifhgnmaa.B
open Go.Proofs.Ytaegldcifhgnmaa.A
open Go.RowKit Go.Proofs.YtaegldcifhgnmaaW.PrintWords Go.Proofs.YtaegldcifhgnmaaW.PrintMore
set_option linter.unusedSimpArgs false
/-! ### plain -/
def upF {α : Type} (f : Nat → List α) : Nat → List α
  | 0 => []
  | k + 1 => upF f k ++ f k
def oneF (l : List S39) (now : List Int) : List (List Int) := if (Int.tmod (isRingR l now).1 2 == 1) = true ∧ now.getD 1 0 < now.getD (now.length - 1) 0 then [now] else []
def goF (l : List S39) (rec : List Int → Nat → Nat → List (List Int)) (now : List Int) (at_ met i : Nat) : List (List Int) :=
  if now.getD 0 0 < (i : Int) then (match otherN (l.getD i z39) at_ with
    | none => []
    | some v => if met.testBit v = true then [] else rec (now ++ [(i : Int)]) v (met ||| 2 ^ v)) else []
def aroundF (l : List S39) : Nat → List Int → Nat → Nat → List (List Int)
  | 0, now, _, _ => if (isRingR l now).2 = true then oneF l now else []
  | d + 1, now, at_, met => if (isRingR l now).2 = true then oneF l now else upF (goF l (aroundF l d) now at_ met) l.length
/-- How many bits of a number are set. -/
def pc (met : Nat) : Nat → Nat
  | 0 => 0
  | m + 1 => pc met m + (if met.testBit m = true then 1 else 0)
theorem isRing_three {l : List S39} {now : List Int} (h : (isRingR l now).2 = true) : 3 ≤ now.length := by
  unfold isRingR at h
  split at h
  · cases h
  · omega

/-! ### the walk -/
/-- The rows that are held: in what block they lie, that they read, and that they are those that are meant. -/
def Rows (B : Nat) (v : Value) (rows : List RowT) (R0 : List RowT) (found : List (List Int)) (W : World) : Prop :=
  kR.R 28 W B (fun _ => True) v rows ∧ (rows.map fun x => x.2).Perm (found ++ R0.map fun x => x.2) ∧ (Asc R0 → Asc rows) ∧ ∀ x ∈ rows, RowOk W x
end Go.Proofs.Ytaegldcifhgnmaa.B

/- Rings as cycles: turned about, turned round; a ring's list is settled by its ties (plain). -/
namespace Go.Proofs.Ytaegldcifhgnmaa.B
open Go.Proofs.Ytaegldcifhgnmaa.A
open Go.RowKit Go.Proofs.YtaegldcifhgnmaaW.PrintWords Go.Proofs.YtaegldcifhgnmaaW.PrintMore
/-- The k-th tie of a list. -/
def nx (x : List Int) (k : Nat) : Int := x.getD k 0
theorem nx_mem {x : List Int} {k : Nat} (h : k < x.length) : nx x k ∈ x := getD_mem 0 h
theorem mem_nx {x : List Int} {i : Int} (h : i ∈ x) : ∃ k, k < x.length ∧ nx x k = i := by
  obtain ⟨k, hk, e⟩ := List.getElem_of_mem h
  exact ⟨k, hk, by unfold nx; rw [List.getD_eq_getElem?_getD, List.getElem?_eq_getElem hk, e]; rfl⟩
theorem ext_nx {x y : List Int} (hl : x.length = y.length) (h : ∀ k, k < x.length → nx x k = nx y k) : x = y := by
  refine List.ext_getElem hl fun k h1 h2 => ?_
  have := h k h1
  unfold nx at this
  rw [List.getD_eq_getElem?_getD, List.getD_eq_getElem?_getD, List.getElem?_eq_getElem h1, List.getElem?_eq_getElem h2] at this
  exact this
/-- The drovers of a ring, one after another. -/
structure Cyc (l : List S39) (x : List Int) (c : Nat → Nat) : Prop where
  three : 3 ≤ x.length
  inr : ∀ j, j < x.length → inR l (nx x j)
  back : c x.length = c 0
  goes : ∀ j, j < x.length → otherN (tieA l (nx x j)) (c j) = some (c (j + 1))
  apart : ∀ i j, i < j → j < x.length → c (i + 1) ≠ c (j + 1)
variable {l : List S39}
theorem ringy_cyc (hg : goodT l) {x : List Int} (h3 : 3 ≤ x.length) : Ringy l x ↔ ∃ c, Cyc l x c := by
  constructor
  · rintro ⟨fr, _, hw⟩
    have hin : ∀ k, k < x.length → inR l (x.getD k 0) := fun k hk => WT_in x _ _ hw _ (getD_mem 0 hk)
    have h1 := (walkN_WT x fr hin x.length 0 fr 0 0 (by omega) (Nat.zero_le _)).mpr (by rw [List.drop_zero]; exact hw)
    obtain ⟨c, c0, cd, hc, ha⟩ := walkN_to l x fr _ _ _ _ _ h1
    exact ⟨c, h3, hin, by rw [c0, cd], fun j hj => by have := (hc j hj).1; rwa [Nat.zero_add] at this, ha⟩
  · rintro ⟨c, h⟩
    have h0 := h.goes 0 (by omega)
    have hi0 := tieA_good hg (h.inr 0 (by omega))
    have hp := other_parts hi0.1 hi0.2.1 h0
    have hb := hasB_iff.mp hp.1
    refine ⟨c 0, ?_, ?_⟩
    · rcases hb with e | e
      · left; unfold nx at e; omega
      · right; unfold nx at e; omega
    · have h1 := walkN_of l x (c 0) x.length 0 (c 0) 0 0 c rfl h.back (fun j hj => ⟨by rw [Nat.zero_add]; exact h.goes j hj, by simp⟩) h.apart
      have := (walkN_WT x (c 0) (fun k hk => h.inr k hk) x.length 0 (c 0) 0 0 (by omega) (Nat.zero_le _)).mp h1
      rwa [List.drop_zero] at this
section
variable {x : List Int} {c : Nat → Nat}
theorem Cyc.inj (h : Cyc l x c) {i j : Nat} (hi : i < x.length) (hj : j < x.length) (e : c i = c j) : i = j := by
  have key : ∀ i j, i < j → j < x.length → c i ≠ c j := fun i j hij hj e => by
    obtain ⟨j', rfl⟩ : ∃ j', j = j' + 1 := ⟨j - 1, by omega⟩
    by_cases h0 : i = 0
    · subst h0
      rw [← h.back] at e
      obtain ⟨m, hm⟩ : ∃ m, x.length = m + 1 := ⟨x.length - 1, by omega⟩
      rw [hm] at e
      exact h.apart j' m (by omega) (by omega) e.symm
    · obtain ⟨i', rfl⟩ : ∃ i', i = i' + 1 := ⟨i - 1, by omega⟩
      exact h.apart i' j' (by omega) (by omega) e
  rcases Nat.lt_trichotomy i j with h1 | h1 | h1
  · exact absurd e (key i j h1 hj)
  · exact h1
  · exact absurd e.symm (key j i h1 hi)
theorem Cyc.ends (hg : goodT l) (h : Cyc l x c) {j : Nat} (hj : j < x.length) {v : Nat} : hasB (tieA l (nx x j)) v = true ↔ v = c j ∨ v = c (j + 1) := by
  have hi := tieA_good hg (h.inr j hj)
  have hp := other_parts hi.1 hi.2.1 (h.goes j hj)
  constructor
  · intro hv
    by_cases e : v = c j
    · exact .inl e
    · have h2 := other_has hi.2.1 hp.1 hv (fun e2 => e e2.symm)
      rw [h.goes j hj] at h2
      exact .inr (Option.some.inj h2).symm
  · rintro (e | e)
    · rw [e]; exact hp.1
    · rw [e]; exact hp.2.1
/-- The ties at a drover: the one that comes and the one that goes. -/
theorem Cyc.at_ (hg : goodT l) (h : Cyc l x c) {j k : Nat} (hj : j < x.length) (hk : k < x.length) (hb : hasB (tieA l (nx x j)) (c k) = true) : j = k ∨ j + 1 = k ∨ (k = 0 ∧ j + 1 = x.length) := by
  rcases (h.ends hg hj).mp hb with e | e
  · exact .inl (h.inj hk hj e).symm
  · by_cases h1 : j + 1 < x.length
    · exact .inr (.inl (h.inj hk h1 e).symm)
    · have h2 : j + 1 = x.length := by omega
      rw [h2, h.back] at e
      exact .inr (.inr ⟨h.inj hk (by omega) e, h2⟩)
theorem Cyc.nodup (hg : goodT l) (h : Cyc l x c) {i j : Nat} (hi : i < x.length) (hj : j < x.length) (e : nx x i = nx x j) : i = j := by
  have h3 := h.three
  have key : ∀ i j, i < j → j < x.length → nx x i ≠ nx x j := fun i j hij hj e => by
    have h1 := h.at_ hg (j := i) (k := j) (by omega) hj (by rw [e]; exact (h.ends hg hj).mpr (.inl rfl))
    by_cases hl : j + 1 < x.length
    · have h2 := h.at_ hg (j := i) (k := j + 1) (by omega) hl (by rw [e]; exact (h.ends hg hj).mpr (.inr rfl))
      omega
    · have hl2 : j + 1 = x.length := by omega
      have h2 := h.at_ hg (j := i) (k := 0) (by omega) (by omega) (by rw [e, ← h.back, ← hl2]; exact (h.ends hg hj).mpr (.inr rfl))
      omega
  rcases Nat.lt_trichotomy i j with h1 | h1 | h1
  · exact absurd e (key i j h1 hj)
  · exact h1
  · exact absurd e.symm (key j i h1 hi)

/-! ### turned about: from another tie on -/
def rot (x : List Int) (m : Nat) : List Int := x.drop m ++ x.take m
theorem rot_len (x : List Int) {m : Nat} (hm : m ≤ x.length) : (rot x m).length = x.length := by unfold rot; rw [List.length_append, List.length_drop, List.length_take]; omega
theorem rot_nx (x : List Int) {m j : Nat} (hm : m < x.length) (hj : j < x.length) : nx (rot x m) j = nx x (if m + j < x.length then m + j else m + j - x.length) := by
  unfold nx rot
  simp only [List.getD_eq_getElem?_getD]
  by_cases h : m + j < x.length
  · rw [if_pos h, List.getElem?_append_left (by rw [List.length_drop]; omega), List.getElem?_drop]
  · rw [if_neg h, List.getElem?_append_right (by rw [List.length_drop]; omega), List.length_drop, List.getElem?_take_of_lt (by omega)]
    congr 2
    omega
theorem Cyc.rot (h : Cyc l x c) {m : Nat} (hm : m < x.length) : Cyc l (rot x m) (fun j => c (if m + j < x.length then m + j else m + j - x.length)) := by
  have hl := rot_len x (Nat.le_of_lt hm)
  refine ⟨by rw [hl]; exact h.three, fun j hj => ?_, ?_, fun j hj => ?_, fun i j hij hj e => ?_⟩
  · rw [hl] at hj
    rw [rot_nx x hm hj]
    exact h.inr _ (by split <;> omega)
  · rw [hl]
    rw [if_neg (by omega), Nat.add_zero, if_pos hm, Nat.add_sub_cancel]
  · rw [hl] at hj
    rw [rot_nx x hm hj]
    by_cases h1 : m + j < x.length
    · rw [if_pos h1]
      have := h.goes (m + j) h1
      by_cases h2 : m + (j + 1) < x.length
      · rw [if_pos h2]; exact this
      · rw [if_neg h2, show m + (j + 1) - x.length = 0 by omega, ← h.back, show x.length = m + j + 1 by omega]; exact this
    · rw [if_neg h1, if_neg (by omega)]
      have := h.goes (m + j - x.length) (by omega)
      rw [show m + (j + 1) - x.length = m + j - x.length + 1 by omega]; exact this
  · rw [hl] at hj
    have h1 := h.inj (i := if m + (i + 1) < x.length then m + (i + 1) else m + (i + 1) - x.length) (j := if m + (j + 1) < x.length then m + (j + 1) else m + (j + 1) - x.length) (by split <;> omega) (by split <;> omega) e
    split at h1 <;> split at h1 <;> omega

/-! ### turned round: the other way, from the same tie on -/
def rev (x : List Int) : List Int := x.take 1 ++ (x.drop 1).reverse
theorem rev_len (x : List Int) : (rev x).length = x.length := by unfold rev; rw [List.length_append, List.length_reverse, List.length_drop, List.length_take]; omega
theorem rev_nx (x : List Int) {j : Nat} (hj : j < x.length) : nx (rev x) j = nx x (if j = 0 then 0 else x.length - j) := by
  unfold nx rev
  simp only [List.getD_eq_getElem?_getD]
  by_cases h : j = 0
  · rw [if_pos h, h, List.getElem?_append_left (by rw [List.length_take]; omega), List.getElem?_take_of_lt (by omega)]
  · rw [if_neg h, List.getElem?_append_right (by rw [List.length_take]; omega), List.length_take, List.getElem?_reverse (by rw [List.length_drop]; omega), List.getElem?_drop, List.length_drop]
    congr 2
    omega
theorem other_back {t : S39} {a b : Nat} (h0 : 0 ≤ t.f0) (h1 : t.f0 < t.f1) (h : otherN t a = some b) : otherN t b = some a := by
  have hp := other_parts h0 h1 h
  exact other_has h1 hp.2.1 hp.1 (fun e => hp.2.2 e.symm)
theorem Cyc.rev (hg : goodT l) (h : Cyc l x c) : Cyc l (rev x) (fun j => c (if j = 0 then 1 else x.length + 1 - j)) := by
  have hl := rev_len x
  have h3 := h.three
  have back : ∀ k, k < x.length → otherN (tieA l (nx x k)) (c (k + 1)) = some (c k) := fun k hk => by
    have hi := tieA_good hg (h.inr k hk)
    exact other_back hi.1 hi.2.1 (h.goes k hk)
  refine ⟨by rw [hl]; exact h3, fun j hj => ?_, ?_, fun j hj => ?_, fun i j hij hj e => ?_⟩
  · rw [hl] at hj
    rw [rev_nx x hj]
    exact h.inr _ (by split <;> omega)
  · rw [hl]
    rw [if_neg (by omega), if_pos rfl, show x.length + 1 - x.length = 1 by omega]
  · rw [hl] at hj
    rw [rev_nx x hj]
    rw [if_neg (Nat.succ_ne_zero j)]
    by_cases h0 : j = 0
    · subst h0
      rw [if_pos rfl, if_pos rfl, show x.length + 1 - (0 + 1) = x.length by omega, h.back]
      exact back 0 hj
    · rw [if_neg h0, if_neg h0, show x.length + 1 - j = (x.length - j) + 1 by omega, show x.length + 1 - (j + 1) = x.length - j by omega]
      exact back _ (by omega)
  · rw [hl] at hj
    rw [if_neg (Nat.succ_ne_zero i), if_neg (Nat.succ_ne_zero j)] at e
    obtain ⟨m, hm⟩ : ∃ m, x.length + 1 - (j + 1) = m + 1 := ⟨x.length + 1 - (j + 1) - 1, by omega⟩
    have e2 : x.length + 1 - (i + 1) = (x.length - i - 1) + 1 := by omega
    rw [hm, e2] at e
    exact h.apart m (x.length - i - 1) (by omega) (by omega) e.symm

/-! ### two lists of one ring -/
/-- Least tie first, and the second one less than the last one. -/
def Canon (x : List Int) : Prop := (∀ k, 0 < k → k < x.length → nx x 0 < nx x k) ∧ nx x 1 < nx x (x.length - 1)
theorem canon_one (hg : goodT l) {y : List Int} {d : Nat → Nat} (h : Cyc l x c) (h' : Cyc l y d) (hx : Canon x) (hy : Canon y) (hm : ∀ i, i ∈ x ↔ i ∈ y) : x = y := by
  have h3 := h.three
  have h3' := h'.three
  -- the first tie
  have e0 : nx x 0 = nx y 0 := by
    obtain ⟨k, hk, ek⟩ := mem_nx ((hm _).mp (nx_mem (x := x) (k := 0) (by omega)))
    obtain ⟨k', hk', ek'⟩ := mem_nx ((hm _).mpr (nx_mem (x := y) (k := 0) (by omega)))
    by_cases h1 : k = 0
    · rw [h1] at ek; exact ek.symm
    · by_cases h2 : k' = 0
      · rw [h2] at ek'; exact ek'
      · have := hy.1 k (by omega) hk
        have := hx.1 k' (by omega) hk'
        omega
  -- one step: where the tie before and the drover are the same, so is the next tie
  have step : ∀ k, k + 1 < x.length → k + 1 < y.length → nx x k = nx y k → c (k + 1) = d (k + 1) → nx x (k + 1) = nx y (k + 1) := by
    intro k hk hk' e ec
    obtain ⟨j, hj, ej⟩ := mem_nx ((hm _).mpr (nx_mem hk'))
    have hb : hasB (tieA l (nx x j)) (c (k + 1)) = true := by rw [ej, ec]; exact (h'.ends hg hk').mpr (.inl rfl)
    rcases h.at_ hg hj hk hb with h1 | h1 | ⟨h1, _⟩
    · rw [h1] at ej; exact ej
    · have h2 : j = k := by omega
      rw [h2, e] at ej
      have := h'.nodup hg (by omega) hk' ej
      omega
    · omega
  have ec : c 0 = d 0 ∨ c 0 = d 1 := (h'.ends hg (j := 0) (by omega)).mp (by rw [← e0]; exact (h.ends hg (by omega)).mpr (.inl rfl))
  rcases ec with ec | ec
  · -- the same way
    have main : ∀ k, k < x.length → k < y.length → nx x k = nx y k ∧ c k = d k := by
      intro k
      induction k with
      | zero => exact fun _ _ => ⟨e0, ec⟩
      | succ k ih =>
        intro hk hk'
        obtain ⟨i1, i2⟩ := ih (by omega) (by omega)
        have g1 := h.goes k (by omega)
        have g2 := h'.goes k (by omega)
        rw [i1, i2, g2] at g1
        have e1 := (Option.some.inj g1).symm
        exact ⟨step k hk hk' i1 e1, e1⟩
    have hlen : x.length = y.length := by
      rcases Nat.lt_trichotomy x.length y.length with hl | hl | hl
      · exfalso
        obtain ⟨m, hm'⟩ : ∃ m, x.length = m + 1 := ⟨x.length - 1, by omega⟩
        obtain ⟨i1, i2⟩ := main m (by omega) (by omega)
        have g1 := h.goes m (by omega)
        have g2 := h'.goes m (by omega)
        rw [i1, i2, g2] at g1
        have e1 := Option.some.inj g1
        rw [← hm', h.back, ec] at e1
        have := h'.inj hl (by omega) e1
        omega
      · exact hl
      · exfalso
        obtain ⟨m, hm'⟩ : ∃ m, y.length = m + 1 := ⟨y.length - 1, by omega⟩
        obtain ⟨i1, i2⟩ := main m (by omega) (by omega)
        have g1 := h.goes m (by omega)
        have g2 := h'.goes m (by omega)
        rw [i1, i2, g2] at g1
        have e1 := Option.some.inj g1
        rw [← hm', h'.back, ← ec] at e1
        have := h.inj hl (by omega) e1.symm
        omega
    exact ext_nx hlen fun k hk => (main k hk (by omega)).1
  · -- the other way: the second and the last change places
    exfalso
    have ec1 : c 1 = d 0 := by
      have g1 := h.goes 0 (by omega)
      have hi := tieA_good hg (h'.inr 0 (by omega))
      have g2 := other_back hi.1 hi.2.1 (h'.goes 0 (by omega))
      rw [e0, ec, g2] at g1
      exact (Option.some.inj g1).symm
    -- y's second tie is x's last one
    have a1 : nx y 1 = nx x (x.length - 1) := by
      obtain ⟨j, hj, ej⟩ := mem_nx ((hm _).mpr (nx_mem (x := y) (k := 1) (by omega)))
      have hb : hasB (tieA l (nx x j)) (c 0) = true := by rw [ej, ec]; exact (h'.ends hg (by omega)).mpr (.inl rfl)
      rcases h.at_ hg hj (by omega) hb with h1 | h1 | ⟨_, h1⟩
      · rw [h1, e0] at ej
        have := h'.nodup hg (by omega) (by omega) ej
        omega
      · omega
      · rw [show j = x.length - 1 by omega] at ej; exact ej.symm
    have a2 : nx y (y.length - 1) = nx x 1 := by
      obtain ⟨j, hj, ej⟩ := mem_nx ((hm _).mpr (nx_mem (x := y) (k := y.length - 1) (by omega)))
      have hb : hasB (tieA l (nx x j)) (c 1) = true := by
        rw [ej, ec1, ← h'.back]
        exact (h'.ends hg (by omega)).mpr (.inr (by rw [show y.length - 1 + 1 = y.length by omega]))
      rcases h.at_ hg hj (by omega) hb with h1 | h1 | ⟨h1, _⟩
      · rw [h1] at ej; exact ej.symm
      · rw [show j = 0 by omega, e0] at ej
        have := h'.nodup hg (by omega) (by omega) ej
        omega
      · omega
    have := hx.2
    have := hy.2
    omega
end
end Go.Proofs.Ytaegldcifhgnmaa.B

/- The specification's rings: the walk. (Printed by gen_x3.py.) -/
namespace Go.Proofs.Ytaegldcifhgnmaa.B
open Go.Proofs.Ytaegldcifhgnmaa.A
open Go.RowKit Go.Proofs.YtaegldcifhgnmaaW.PrintWords Go.Proofs.YtaegldcifhgnmaaW.PrintMore
set_option linter.unusedSimpArgs false
def sideF (l : List S39) (i j : Nat) : List (List Int) := if j = 0 then aroundF l 8 [(i : Int)] (l.getD i z39).f0.toNat (2 ^ (l.getD i z39).f0.toNat) else aroundF l 8 [(i : Int)] (l.getD i z39).f1.toNat (2 ^ (l.getD i z39).f1.toNat)
def ringsR (l : List S39) : List (List Int) := upF (fun i => upF (sideF l i) 2) l.length
end Go.Proofs.Ytaegldcifhgnmaa.B

/- The specification's longest: the walk. (Printed by gen_x5.py.) -/
namespace Go.Proofs.Ytaegldcifhgnmaa.B
open Go.Proofs.Ytaegldcifhgnmaa.A
open Go.RowKit Go.Proofs.YtaegldcifhgnmaaW.PrintWords Go.Proofs.YtaegldcifhgnmaaW.PrintMore
set_option linter.unusedSimpArgs false
/-! ### plain -/
/-- The longest list that begins with now and goes on with rows from the d-th last on; best is what is found so far. -/
def lgB {α : Type} [Inhabited α] (key : α → List Int) (all : List α) : Nat → Nat → List α → List α → List α
  | 0, _, _, best => best
  | d + 1, used, now, best => lgB key all d used now (if disjB used (key (all.getD (all.length - (d + 1)) default)) then updL (lgB key all d (used ||| setI (key (all.getD (all.length - (d + 1)) default))) (now ++ [all.getD (all.length - (d + 1)) default]) (now ++ [all.getD (all.length - (d + 1)) default])) best else best)
theorem upd_assoc {α : Type} (x b best : List α) : updL x (updL b best) = updL (updL x b) best := by
  unfold updL
  by_cases h1 : best.length < b.length <;> by_cases h2 : b.length < x.length <;> by_cases h3 : best.length < x.length <;> simp [h1, h2, h3] <;> omega
theorem lp_lg {α : Type} [Inhabited α] (key : α → List Int) (all : List α) : ∀ d used now b best, lpB key all d used now (updL b best) = updL (lgB key all d used now b) best
  | 0, _, _, _, _ => rfl
  | d + 1, used, now, b, best => by
    rw [lpB, lgB]
    by_cases h : disjB used (key (all.getD (all.length - (d + 1)) default)) = true
    · rw [if_pos h, if_pos h, lp_lg key all d, upd_assoc, lp_lg key all d]
    · rw [if_neg h, if_neg h, lp_lg key all d]
theorem upd_nil {α : Type} (b : List α) : updL b [] = b := by
  unfold updL
  split
  · rfl
  · rename_i h
    exact (show b = [] by simpa using h).symm
theorem lp_is_lg {α : Type} [Inhabited α] (key : α → List Int) (all : List α) (d used : Nat) (now : List α) : lpB key all d used now (updL now []) = lgB key all d used now now := by
  rw [lp_lg, upd_nil]
theorem setI_bit : ∀ (b : List Int) (j : Nat), (setI b).testBit j = b.any fun i => decide (i.toNat = j) := by
  have key : ∀ (b : List Int) (s j : Nat), (b.foldl (fun s x => s ||| 2 ^ x.toNat) s).testBit j = (s.testBit j || b.any fun i => decide (i.toNat = j)) := by
    intro b
    induction b with
    | nil => intro s j; simp
    | cons x b ih =>
      intro s j
      rw [List.foldl_cons, ih, or_bit, List.any_cons, Bool.or_assoc]
      congr 2
      exact decide_eq_decide.mpr ⟨fun h => h.symm, fun h => h.symm⟩
  intro b j
  unfold setI
  rw [key b 0 j]
  simp
/-! ### the walk -/
end Go.Proofs.Ytaegldcifhgnmaa.B

/- The specification's Ring and Spoilt: what they return. (Printed by gen_q6.py.) -/
namespace Go.Proofs.Ytaegldcifhgnmaa.B
open Go.Proofs.Ytaegldcifhgnmaa.A
open Go.RowKit Go.Proofs.YtaegldcifhgnmaaW.PrintWords Go.Proofs.YtaegldcifhgnmaaW.PrintMore
def rRingF (one : Bool) (n : Int) (l : List S39) : List Int × Int := if tiesE n l = 0 then ringZ (shortR l one n.toNat) else ([], tiesE n l)
def drovewayref09_Ring.f (a0 : Int) (l1 : List S39) : Option (List Int × Int) := if l1.length ≤ 1000 then some (rRingF false a0 l1) else none
def drovewayref09_Spoilt.f (a0 : Int) (l1 : List S39) : Option (List Int × Int) := if l1.length ≤ 1000 then some (rRingF true a0 l1) else none
end Go.Proofs.Ytaegldcifhgnmaa.B
