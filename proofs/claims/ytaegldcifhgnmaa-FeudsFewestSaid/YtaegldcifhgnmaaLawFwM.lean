/- FeudsFewest holds: its code returns true and leaves what it was given as it was. Conditions: those of the given statement, none besides. -/
import Derived.Test.YtaegldcifhgnmaaZFw4
import Derived.Test.YtaegldcifhgnmaaProg
import Derived.Below
import Derived.Deep.Draws
import Derived.Deep.AppendLies
import Derived.Maps.AppendAt
import Derived.OwnWalk
import Derived.Laws.BytesArg
import Derived.Laws.MakeOwn
import Derived.Laws.OwnMore
import Derived.Deep.OwnRows
import Derived.Tactics
import Derived.Lib.ConvBytes
import Derived.Laws.Slices
import Derived.WalkKit
import Derived.KernelRfl
import Derived.RowKit3
import Derived.Deep.LoopGhost
import Derived.Deep.QuietTactic
import Derived.BigQuiet
import Derived.WideLaws
import Derived.Deep.DeepCutAuto
import Derived.Deep.CutBlock
import Derived.Deep.RegionHeld3
import Derived.Laws.Rows
import Derived.Lib.AppendStr
import Derived.ArgAppend
import Derived.Laws.IdiomCopy
import Derived.OrdersHeld
import Derived.Laws.BitsLemmas
import Derived.RowKit
import Derived.Test.YtaegldcifhgnmaaWWords
import Derived.Test.YtaegldcifhgnmaaWLast
import Derived.Test.YtaegldcifhgnmaaWTab
import Derived.Test.YtaegldcifhgnmaaWRepsOne
import Derived.Test.YtaegldcifhgnmaaWGuard
import Derived.Deep.Slices
import Derived.ChangeSame
import Derived.Test.YtaegldcifhgnmaaRows
import Derived.ProofKit
import Derived.OpenShut
import Derived.ShutString
import Derived.ChangeOld
import Derived.SizedLaws
import Derived.Test.YtaegldcifhgnmaaWSized
/- Apart: the first lists of the sets of ties are the rings' own lists (plain). -/
namespace Go.Proofs.Ytaegldcifhgnmaa.B
open Go.Proofs.Ytaegldcifhgnmaa.A
open Go.RowKit Go.Proofs.YtaegldcifhgnmaaW.PrintWords Go.Proofs.YtaegldcifhgnmaaW.PrintMore
variable {l : List S39}
theorem feL_perm {x y : List Int} (h : x.Perm y) : feL l x = feL l y := by
  induction h with
  | nil => rfl
  | cons a _ ih => rw [feL, feL, ih]
  | swap a b _ => rw [feL, feL, feL, feL]; omega
  | trans _ _ h1 h2 => rw [h1, h2]
theorem rot_perm (x : List Int) (m : Nat) : (rot x m).Perm x := by
  have h := List.perm_append_comm (l₁ := x.drop m) (l₂ := x.take m)
  rw [List.take_append_drop] at h
  exact h
theorem rev_perm (x : List Int) : (rev x).Perm x := by
  have h := (List.reverse_perm (x.drop 1)).append_left (x.take 1)
  rw [List.take_append_drop] at h
  exact h
theorem setI_mem {x y : List Int} (h : ∀ i, i ∈ x ↔ i ∈ y) : setI x = setI y := by
  apply Nat.eq_of_testBit_eq
  intro j
  rw [setI_bit, setI_bit, Bool.eq_iff_iff, List.any_eq_true, List.any_eq_true]
  exact ⟨fun ⟨i, hi, e⟩ => ⟨i, (h i).mp hi, e⟩, fun ⟨i, hi, e⟩ => ⟨i, (h i).mpr hi, e⟩⟩
theorem mem_setI {x y : List Int} (hx : ∀ i ∈ x, 0 ≤ i) (hy : ∀ i ∈ y, 0 ≤ i) (h : setI x = setI y) : ∀ i, i ∈ x ↔ i ∈ y := by
  have key : ∀ x y : List Int, (∀ i ∈ x, 0 ≤ i) → (∀ i ∈ y, 0 ≤ i) → setI x = setI y → ∀ i, i ∈ x → i ∈ y := by
    intro x y hx hy h i hi
    have h1 : (setI x).testBit i.toNat = true := by rw [setI_bit, List.any_eq_true]; exact ⟨i, hi, by simp⟩
    rw [h, setI_bit, List.any_eq_true] at h1
    obtain ⟨j, hj, e⟩ := h1
    have e2 := of_decide_eq_true e
    have := hx i hi
    have := hy j hj
    rw [show i = j by omega]; exact hj
  exact fun i => ⟨key x y hx hy h i, key y x hy hx h.symm i⟩
theorem cmp_head {x y : List Int} (hx : 0 < x.length) (hy : 0 < y.length) (h : nx x 0 < nx y 0) (h2 : cmpL y x ≤ 0) : False := by
  cases x with
  | nil => exact absurd hx (Nat.lt_irrefl _)
  | cons a xt =>
    cases y with
    | nil => exact absurd hy (Nat.lt_irrefl _)
    | cons b yt =>
      have h1 : a < b := h
      have h3 := cmpL_lt h1 xt yt
      have h4 := cmpL_swap (a :: xt) (b :: yt)
      have h5 := cmpL_eq (a :: xt) (b :: yt) (by omega)
      injection h5 with h6
      omega
theorem cmp_second {x y : List Int} (hx : 1 < x.length) (hy : 1 < y.length) (e : nx x 0 = nx y 0) (h : nx x 1 < nx y 1) (h2 : cmpL y x ≤ 0) : False := by
  match x, y, hx, hy with
  | a :: a' :: xt, b :: b' :: yt, _, _ =>
    have e1 : a = b := e
    have h1 : a' < b' := h
    subst e1
    have h3 := cmpL_pre [a] (a' :: xt) (b' :: yt)
    have h4 := cmpL_lt h1 xt yt
    have h5 : cmpL (a :: a' :: xt) (a :: b' :: yt) ≤ 0 := by rw [show cmpL (a :: a' :: xt) (a :: b' :: yt) = cmpL (a' :: xt) (b' :: yt) from h3]; exact h4
    have h6 := cmpL_swap (a :: a' :: xt) (a :: b' :: yt)
    have h7 := cmpL_eq _ _ (show cmpL (a :: a' :: xt) (a :: b' :: yt) = 0 by omega)
    injection h7 with h8 h9
    injection h9 with h10
    omega
/-- A ring has no more ties than there are drovers. -/
theorem cyc_len {n : Nat} (ht : tiesE n l = 0) {x : List Int} {c : Nat → Nat} (h : Cyc l x c) : x.length ≤ n := by
  have hg := tiesE_good ht
  have hlt : ∀ j, j < x.length → c j < n := fun j hj => by
    have hin := h.inr j hj
    unfold inR at hin
    have hb := hasB_iff.mp ((h.ends hg hj).mpr (.inl rfl))
    have h1 := tiesE_parts ht
    have h2 := okT_parts (okTies_parts h1.2.2 (i := (nx x j).toNat) (by omega)).1
    unfold tieA at hb
    omega
  have := nodup_short n ((List.range x.length).map c) (List.pairwise_map.mpr (List.pairwise_lt_range.imp_of_mem fun {a b} ha hb hab e => by
    rw [List.mem_range] at ha hb
    have := h.inj ha hb e
    omega)) (fun v hv => by
    obtain ⟨j, hj, rfl⟩ := List.mem_map.mp hv
    exact hlt j (List.mem_range.mp hj))
  rwa [List.length_map, List.length_range] at this
theorem ringy_pos {x : List Int} (h : Ringy l x) : ∀ i ∈ x, 0 ≤ i := fun i hi => (ringy_in h i hi).1

theorem first_canon {n : Nat} (ht : tiesE n l = 0) {k : Nat} {b : List Int} (h : firstA l (n + 1) k = some b) : OddRing l b ∧ Canon b ∧ setI b = k := by
  have hg := tiesE_good ht
  have hL := firstA_least hg (n + 1) k
  rw [h] at hL
  obtain ⟨⟨hO, hbl, hs⟩, hmin⟩ := hL
  obtain ⟨c, hc⟩ := (ringy_cyc hg hO.1).mp hO.2.1
  have h3 := hc.three
  have turn : ∀ y, (∃ d, Cyc l y d) → y.Perm b → cmpL b y ≤ 0 := fun y hy hp => by
    have hyl := hp.length_eq
    refine hmin y ⟨⟨by omega, (ringy_cyc hg (by omega)).mpr hy, by rw [feL_perm hp]; exact hO.2.2⟩, by omega, ?_⟩
    rw [← hs]
    exact setI_mem fun i => hp.mem_iff
  refine ⟨hO, ⟨fun m hm hml => ?_, ?_⟩, hs⟩
  · rcases Int.lt_trichotomy (nx b 0) (nx b m) with h1 | h1 | h1
    · exact h1
    · have := hc.nodup hg (by omega) hml h1
      omega
    · exfalso
      have hl := rot_len b (Nat.le_of_lt hml)
      refine cmp_head (x := rot b m) (y := b) (by omega) (by omega) ?_ (turn _ ⟨_, hc.rot hml⟩ (rot_perm b m))
      rw [rot_nx b hml (by omega), Nat.add_zero, if_pos hml]
      exact h1
  · rcases Int.lt_trichotomy (nx b 1) (nx b (b.length - 1)) with h1 | h1 | h1
    · exact h1
    · have := hc.nodup hg (by omega) (by omega) h1
      omega
    · exfalso
      have hl := rev_len b
      refine cmp_second (x := rev b) (y := b) (by omega) (by omega) ?_ ?_ (turn _ ⟨_, hc.rev hg⟩ (rev_perm b))
      · rw [rev_nx b (by omega), if_pos rfl]
      · rw [rev_nx b (by omega), if_neg (by decide)]
        exact h1
theorem canon_first {n : Nat} (ht : tiesE n l = 0) {x : List Int} (hO : OddRing l x) (hC : Canon x) : firstA l (n + 1) (setI x) = some x := by
  have hg := tiesE_good ht
  obtain ⟨c, hc⟩ := (ringy_cyc hg hO.1).mp hO.2.1
  have hL := firstA_least hg (n + 1) (setI x)
  have hx : OddRing l x ∧ x.length < n + 1 ∧ setI x = setI x := ⟨hO, by have := cyc_len ht hc; omega, rfl⟩
  cases hf : firstA l (n + 1) (setI x) with
  | none => rw [hf] at hL; exact absurd hx (hL x)
  | some b =>
    obtain ⟨hOb, hCb, hsb⟩ := first_canon ht hf
    obtain ⟨d, hd⟩ := (ringy_cyc hg hOb.1).mp hOb.2.1
    rw [canon_one hg hd hc hCb hC (mem_setI (ringy_pos hOb.2.1) (ringy_pos hO.2.1) hsb)]

/-- The program's sorted lists: which they are, and that each is there once. -/
theorem prog_lists {n : Nat} (ht : tiesE n l = 0) {ks : List Nat} {ys : List (List Int)} (hnd : ks.Nodup) (hk : ∀ k, k ∈ ks ↔ firstA l (n + 1) k ≠ none) (hp : (ys.map some).Perm (ks.map (firstA l (n + 1)))) :
    (∀ x, x ∈ ys ↔ OddRing l x ∧ Canon x) ∧ ys.Nodup := by
  have hmem : ∀ x, x ∈ ys ↔ ∃ k, firstA l (n + 1) k = some x := fun x => by
    constructor
    · intro hx
      have h1 : some x ∈ ys.map some := List.mem_map_of_mem hx
      obtain ⟨k, _, e⟩ := List.mem_map.mp (hp.mem_iff.mp h1)
      exact ⟨k, e⟩
    · rintro ⟨k, e⟩
      have h1 : some x ∈ ks.map (firstA l (n + 1)) := List.mem_map.mpr ⟨k, (hk k).mpr (by rw [e]; simp), e⟩
      obtain ⟨y, hy, e2⟩ := List.mem_map.mp (hp.mem_iff.mpr h1)
      rw [← Option.some.inj e2]; exact hy
  refine ⟨fun x => (hmem x).trans ⟨fun ⟨k, e⟩ => ⟨(first_canon ht e).1, (first_canon ht e).2.1⟩, fun ⟨h1, h2⟩ => ⟨_, canon_first ht h1 h2⟩⟩, ?_⟩
  have h1 : (ks.map (firstA l (n + 1))).Nodup := by
    refine List.pairwise_map.mpr (List.Pairwise.imp_of_mem (fun {a b} ha _ hab e => ?_) hnd)
    obtain ⟨x, hx⟩ := Option.ne_none_iff_exists'.mp ((hk a).mp ha)
    have e1 := (first_canon ht hx).2.2
    rw [e] at hx
    have e2 := (first_canon ht hx).2.2
    exact hab (e1.symm.trans e2)
  have h2 := hp.nodup_iff.mpr h1
  exact (List.pairwise_map.mp h2).imp fun h e => h (by rw [e])
end Go.Proofs.Ytaegldcifhgnmaa.B

/- The specification's rings: which they are (plain). -/
namespace Go.Proofs.Ytaegldcifhgnmaa.B
open Go.Proofs.Ytaegldcifhgnmaa.A
open Go.RowKit Go.Proofs.YtaegldcifhgnmaaW.PrintWords Go.Proofs.YtaegldcifhgnmaaW.PrintMore
variable {l : List S39}
theorem up_mem {α : Type} {f : Nat → List α} {x : α} : ∀ k, x ∈ upF f k ↔ ∃ i, i < k ∧ x ∈ f i
  | 0 => ⟨fun h => (by cases h), fun ⟨_, h, _⟩ => absurd h (Nat.not_lt_zero _)⟩
  | k + 1 => by
    rw [upF, List.mem_append, up_mem k]
    constructor
    · rintro (⟨i, h1, h2⟩ | h)
      · exact ⟨i, by omega, h2⟩
      · exact ⟨k, Nat.lt_succ_self k, h⟩
    · rintro ⟨i, h1, h2⟩
      by_cases e : i = k
      · rw [e] at h2; exact .inr h2
      · exact .inl ⟨i, by omega, h2⟩
theorem up_nodup {α : Type} {f : Nat → List α} : ∀ k, (∀ i, i < k → (f i).Nodup) → (∀ i j, i < j → j < k → ∀ x, x ∈ f i → x ∈ f j → False) → (upF f k).Nodup
  | 0, _, _ => List.nodup_nil
  | k + 1, h1, h2 => by
    rw [upF]
    refine List.nodup_append.mpr ⟨up_nodup k (fun i hi => h1 i (by omega)) (fun i j hij hj => h2 i j hij (by omega)), h1 k (Nat.lt_succ_self k), fun a ha b hb e => ?_⟩
    obtain ⟨i, hi, ha'⟩ := (up_mem k).mp ha
    exact h2 i k hi (Nat.lt_succ_self k) a ha' (by rw [e]; exact hb)
theorem one_mem {now x : List Int} (h : x ∈ oneF l now) : x = now ∧ (Int.tmod (isRingR l now).1 2 == 1) = true ∧ nx now 1 < nx now (now.length - 1) := by
  unfold oneF at h
  split at h
  · rename_i h1
    exact ⟨List.mem_singleton.mp h, h1.1, h1.2⟩
  · cases h
theorem one_nodup {now : List Int} : (oneF l now).Nodup := by
  unfold oneF
  split
  · exact List.nodup_cons.mpr ⟨List.not_mem_nil, List.nodup_nil⟩
  · exact List.nodup_nil
theorem go_mem {rec : List Int → Nat → Nat → List (List Int)} {now x : List Int} {at_ met i : Nat} (h : x ∈ goF l rec now at_ met i) : nx now 0 < (i : Int) ∧ ∃ v, otherN (l.getD i z39) at_ = some v ∧ met.testBit v = false ∧ x ∈ rec (now ++ [(i : Int)]) v (met ||| 2 ^ v) := by
  unfold goF at h
  split at h
  · rename_i h1
    refine ⟨h1, ?_⟩
    split at h
    · cases h
    · rename_i v hv
      split at h
      · cases h
      · rename_i ht
        exact ⟨v, hv, by simpa using ht, h⟩
  · cases h
theorem nx_append {a b : List Int} {k : Nat} (h : k < a.length) : nx (a ++ b) k = nx a k := by
  unfold nx
  simp only [List.getD_eq_getElem?_getD]
  rw [List.getElem?_append_left h]
theorem nx_last {a : List Int} {i : Int} {b : List Int} : nx (a ++ [i] ++ b) a.length = i := by
  rw [nx_append (by rw [List.length_append, List.length_singleton]; omega)]
  unfold nx
  rw [List.getD_eq_getElem?_getD, List.getElem?_append_right (Nat.le_refl _), Nat.sub_self]; rfl
/-- What is found is a ring that goes on from what there is. -/
theorem around_sound : ∀ d now at_ met x, now ≠ [] → x ∈ aroundF l d now at_ met → (∃ js, x = now ++ js ∧ (∀ j ∈ js, nx now 0 < j) ∧ DT l at_ met js) ∧ (isRingR l x).2 = true ∧ x ∈ oneF l x := by
  intro d
  induction d with
  | zero =>
    intro now at_ met x hne h
    rw [aroundF] at h
    split at h
    · rename_i hr
      obtain rfl := (one_mem h).1
      exact ⟨⟨[], by simp, fun j hj => (by cases hj), trivial⟩, hr, h⟩
    · cases h
  | succ d ih =>
    intro now at_ met x hne h
    rw [aroundF] at h
    split at h
    · rename_i hr
      obtain rfl := (one_mem h).1
      exact ⟨⟨[], by simp, fun j hj => (by cases hj), trivial⟩, hr, h⟩
    · obtain ⟨i, hi, h1⟩ := (up_mem _).mp h
      obtain ⟨h2, v, h3, h4, h5⟩ := go_mem h1
      obtain ⟨⟨js, e, h6, h7⟩, h8, h9⟩ := ih _ _ _ x (by simp) h5
      have e0 : nx (now ++ [(i : Int)]) 0 = nx now 0 := nx_append (List.length_pos_iff.mpr hne)
      refine ⟨⟨(i : Int) :: js, by rw [e, List.append_assoc]; rfl, fun j hj => ?_, ⟨by omega, by omega⟩, v, h3, h4, h7⟩, h8, h9⟩
      rcases List.mem_cons.mp hj with e1 | e1
      · rw [e1]; exact h2
      · have := h6 j e1
        rwa [e0] at this
theorem around_nodup : ∀ d now at_ met, now ≠ [] → (aroundF l d now at_ met).Nodup := by
  intro d
  induction d with
  | zero =>
    intro now at_ met _
    rw [aroundF]
    split
    · exact one_nodup
    · exact List.nodup_nil
  | succ d ih =>
    intro now at_ met hne
    rw [aroundF]
    split
    · exact one_nodup
    · refine up_nodup _ (fun i _ => ?_) fun i j hij _ x h1 h2 => ?_
      · unfold goF
        split
        · split
          · exact List.nodup_nil
          · split
            · exact List.nodup_nil
            · exact ih _ _ _ (by simp)
        · exact List.nodup_nil
      · obtain ⟨_, v, _, _, h5⟩ := go_mem h1
        obtain ⟨_, u, _, _, h6⟩ := go_mem h2
        obtain ⟨⟨js, e, _⟩, _⟩ := around_sound _ _ _ _ x (by simp) h5
        obtain ⟨⟨js', e', _⟩, _⟩ := around_sound _ _ _ _ x (by simp) h6
        have a1 : nx x now.length = (i : Int) := by rw [e]; exact nx_last
        have a2 : nx x now.length = (j : Int) := by rw [e']; exact nx_last
        omega

/-! ### all are found -/
theorem take_nx {x : List Int} {k j : Nat} (h : j < k) : nx (x.take k) j = nx x j := by
  unfold nx
  simp only [List.getD_eq_getElem?_getD]
  rw [List.getElem?_take_of_lt h]
theorem take_succ_nx {x : List Int} {k : Nat} (h : k < x.length) : x.take (k + 1) = x.take k ++ [nx x k] := by
  rw [List.take_succ_eq_append_getElem h]
  unfold nx
  rw [List.getD_eq_getElem?_getD, List.getElem?_eq_getElem h]; rfl
/-- A part of a ring's list is no ring. -/
theorem prefix_no (hg : goodT l) {x : List Int} {c : Nat → Nat} (h : Cyc l x c) {k : Nat} (hk : k < x.length) : (isRingR l (x.take k)).2 = false := by
  cases hr : (isRingR l (x.take k)).2 with
  | false => rfl
  | true =>
    exfalso
    have h3 := isRing_three hr
    have hl : (x.take k).length = k := by rw [List.length_take]; omega
    obtain ⟨d, hd⟩ := (ringy_cyc hg h3).mp ((isRing_iff h3).mp hr)
    rw [hl] at h3
    have hx3 := h.three
    have e0 : nx (x.take k) 0 = nx x 0 := take_nx (by omega)
    have ec : d 0 = c 0 ∨ d 0 = c 1 := (h.ends hg (j := 0) (by omega)).mp (by rw [← e0]; exact (hd.ends hg (by omega)).mpr (.inl rfl))
    rcases ec with ec | ec
    · have main : ∀ j, j ≤ k → d j = c j := by
        intro j
        induction j with
        | zero => exact fun _ => ec
        | succ j ih =>
          intro hj
          have g1 := hd.goes j (by omega)
          have g2 := h.goes j (by omega)
          rw [take_nx (show j < k by omega), ih (by omega), g2] at g1
          exact (Option.some.inj g1).symm
      have h4 := main k (Nat.le_refl k)
      have h5 := hd.back
      rw [hl, h4, ec] at h5
      have := h.inj hk (by omega) h5
      omega
    · have g1 := hd.goes 0 (by omega)
      have hi := tieA_good hg (h.inr 0 (by omega))
      rw [e0, ec, other_back hi.1 hi.2.1 (h.goes 0 (by omega))] at g1
      have e1 : c 0 = d 1 := Option.some.inj g1
      have hb : hasB (tieA l (nx x 1)) (c 0) = true := by
        rw [← take_nx (x := x) (show 1 < k by omega), e1]
        exact (hd.ends hg (by omega)).mpr (.inl rfl)
      have := h.at_ hg (by omega) (by omega) hb
      omega
theorem around_all (hg : goodT l) {x : List Int} {c : Nat → Nat} (h : Cyc l x c) (hC : Canon x) (h1 : x ∈ oneF l x) : ∀ m k d met, k + m = x.length → 0 < k → m ≤ d → (∀ v, met.testBit v = true ↔ ∃ j, 0 < j ∧ j ≤ k ∧ v = c j) → x ∈ aroundF l d (x.take k) (c k) met := by
  have hring : (isRingR l x).2 = true := (isRing_iff h.three).mpr ((ringy_cyc hg h.three).mpr ⟨c, h⟩)
  intro m
  induction m with
  | zero =>
    intro k d met hk _ _ _
    have e : x.take k = x := List.take_of_length_le (by omega)
    rw [e]
    cases d with
    | zero => rw [aroundF, if_pos hring]; exact h1
    | succ d => rw [aroundF, if_pos hring]; exact h1
  | succ m ih =>
    intro k d met hk h0 hmd hmet
    obtain ⟨d', rfl⟩ : ∃ d', d = d' + 1 := ⟨d - 1, by omega⟩
    have hno := prefix_no hg h (show k < x.length by omega)
    rw [aroundF, if_neg (by rw [hno]; exact Bool.false_ne_true)]
    have hin := h.inr k (by omega)
    have hin2 := hin
    unfold inR at hin2
    obtain ⟨i, hi⟩ := Int.eq_ofNat_of_zero_le hin2.1
    have hgo := h.goes k (by omega)
    have hti : tieA l (nx x k) = l.getD i z39 := by unfold tieA; rw [hi, Int.toNat_natCast]
    rw [hti] at hgo
    have hfree : met.testBit (c (k + 1)) = false := by
      rw [← Bool.not_eq_true, hmet]
      rintro ⟨j, hj0, hjk, e⟩
      obtain ⟨j', rfl⟩ : ∃ j', j = j' + 1 := ⟨j - 1, by omega⟩
      exact h.apart j' k (by omega) (by omega) e.symm
    refine (up_mem _).mpr ⟨i, by omega, ?_⟩
    unfold goF
    rw [if_pos (by
      have h2 : nx (x.take k) 0 = nx x 0 := take_nx h0
      have h3 := hC.1 k h0 (by omega)
      show nx (x.take k) 0 < (i : Int)
      rw [h2, ← hi]; exact h3), hgo]
    dsimp only
    rw [if_neg (by rw [hfree]; exact Bool.false_ne_true), ← hi, ← take_succ_nx (by omega)]
    refine ih (k + 1) d' _ (by omega) (by omega) (by omega) fun v => ?_
    rw [or_bit, Bool.or_eq_true, hmet, decide_eq_true_iff]
    constructor
    · rintro (⟨j, a1, a2, a3⟩ | e)
      · exact ⟨j, a1, by omega, a3⟩
      · exact ⟨k + 1, by omega, Nat.le_refl _, e⟩
    · rintro ⟨j, a1, a2, a3⟩
      by_cases e : j = k + 1
      · rw [e] at a3; exact .inr a3
      · exact .inl ⟨j, a1, by omega, a3⟩

/-! ### the rings of a list of ties -/
theorem one_odd {x : List Int} (h3 : 3 ≤ x.length) (hr : (isRingR l x).2 = true) : (Int.tmod (isRingR l x).1 2 == 1) = oddB (feL l x) := by
  rw [isRing_fe h3 hr, ask_odd]
  unfold askB
  rw [if_neg (by decide)]
theorem side_mem {i j : Nat} {x : List Int} (h : x ∈ sideF l i j) : ∃ v, v = (if j = 0 then (l.getD i z39).f0.toNat else (l.getD i z39).f1.toNat) ∧ x ∈ aroundF l 8 [(i : Int)] v (2 ^ v) := by
  unfold sideF at h
  by_cases e : j = 0
  · rw [if_pos e] at h; exact ⟨_, by rw [if_pos e], h⟩
  · rw [if_neg e] at h; exact ⟨_, by rw [if_neg e], h⟩
theorem rings_mem {n : Nat} (ht : tiesE n l = 0) (x : List Int) : x ∈ ringsR l ↔ OddRing l x ∧ Canon x := by
  have hg := tiesE_good ht
  unfold ringsR
  rw [up_mem]
  constructor
  · rintro ⟨i, hi, hx⟩
    obtain ⟨j, _, hx2⟩ := (up_mem 2).mp hx
    obtain ⟨v, _, hx3⟩ := side_mem hx2
    obtain ⟨⟨js, e, h6, _⟩, h8, h9⟩ := around_sound _ _ _ _ x (by simp) hx3
    have h3 := isRing_three h8
    obtain ⟨_, ho, hlt⟩ := one_mem h9
    refine ⟨⟨h3, (isRing_iff h3).mp h8, by rw [← one_odd h3 h8]; exact ho⟩, fun k hk hkl => ?_, hlt⟩
    have hx0 : nx x 0 = (i : Int) := by rw [e]; rfl
    have hm := nx_mem hkl
    obtain ⟨k', rfl⟩ : ∃ k', k = k' + 1 := ⟨k - 1, by omega⟩
    have hk2 : nx x (k' + 1) = nx js k' := by rw [e]; rfl
    rw [hx0, hk2]
    exact h6 _ (nx_mem (by rw [e] at hkl; simp at hkl; omega))
  · rintro ⟨hO, hC⟩
    obtain ⟨c, hc⟩ := (ringy_cyc hg hO.1).mp hO.2.1
    have h3 := hc.three
    have hring : (isRingR l x).2 = true := (isRing_iff h3).mpr hO.2.1
    have h1 : x ∈ oneF l x := by
      unfold oneF
      rw [if_pos ⟨by rw [one_odd h3 hring]; exact hO.2.2, hC.2⟩]
      exact List.mem_singleton_self x
    have hin := hc.inr 0 (by omega)
    have hin2 := hin
    unfold inR at hin2
    obtain ⟨i, hi⟩ := Int.eq_ofNat_of_zero_le hin2.1
    have hti : tieA l (nx x 0) = l.getD i z39 := by unfold tieA; rw [hi, Int.toNat_natCast]
    have hlen := cyc_len ht hc
    have hn8 := (tiesE_parts ht).1
    have hfound := around_all hg hc hC h1 (x.length - 1) 1 8 (2 ^ c 1) (by omega) (by omega) (by omega) (fun v => by
      rw [tb_two, beq_iff_eq]
      constructor
      · intro e; exact ⟨1, by omega, Nat.le_refl _, e⟩
      · rintro ⟨j, a1, a2, a3⟩
        rw [show j = 1 by omega] at a3; exact a3)
    have ht1 : x.take 1 = [(i : Int)] := by
      rw [← hi]
      have := take_succ_nx (x := x) (k := 0) (by omega)
      rw [List.take_zero, List.nil_append] at this
      exact this
    rw [ht1] at hfound
    refine ⟨i, by omega, (up_mem 2).mpr ?_⟩
    have hb := hasB_iff.mp ((hc.ends hg (j := 0) (by omega)).mpr (.inr rfl))
    rw [hti, Nat.zero_add] at hb
    rcases hb with e | e
    · refine ⟨0, by decide, ?_⟩
      unfold sideF
      rw [if_pos rfl, show (l.getD i z39).f0.toNat = c 1 by omega]
      exact hfound
    · refine ⟨1, by decide, ?_⟩
      unfold sideF
      rw [if_neg (by decide), show (l.getD i z39).f1.toNat = c 1 by omega]
      exact hfound
theorem rings_nodup {n : Nat} (ht : tiesE n l = 0) : (ringsR l).Nodup := by
  have hg := tiesE_good ht
  unfold ringsR
  have hsn : ∀ i j, (sideF l i j).Nodup := fun i j => by unfold sideF; split <;> exact around_nodup _ _ _ _ (by simp)
  refine up_nodup _ (fun i hi => up_nodup 2 (fun j _ => hsn i j) fun j j' hjj hj' x h1 h2 => ?_) fun i i' hii hi' x h1 h2 => ?_
  · obtain ⟨v, hv, h3⟩ := side_mem h1
    obtain ⟨u, hu, h4⟩ := side_mem h2
    rw [if_pos (by omega)] at hv
    rw [if_neg (by omega)] at hu
    obtain ⟨⟨js, e, h6, h7⟩, h8, _⟩ := around_sound _ _ _ _ x (by simp) h3
    obtain ⟨⟨js', e', _, h7'⟩, _, _⟩ := around_sound _ _ _ _ x (by simp) h4
    have hjs : js = js' := by
      rw [e] at e'
      exact List.append_cancel_left e'
    subst hjs
    have hx3 := isRing_three h8
    cases js with
    | nil => rw [e] at hx3; simp at hx3
    | cons j1 jt =>
      obtain ⟨hin, w1, o1, _⟩ := h7
      obtain ⟨_, w2, o2, _⟩ := h7'
      have hgi := hg _ (getD_mem z39 hi)
      have hg1 := tieA_good hg hin
      have p1 := hasB_iff.mp (other_parts hg1.1 hg1.2.1 o1).1
      have p2 := hasB_iff.mp (other_parts hg1.1 hg1.2.1 o2).1
      have hlt := h6 j1 (List.mem_cons_self)
      have hlt2 : (i : Int) < j1 := hlt
      unfold inR at hin
      have hp := (okTies_parts (tiesE_parts ht).2.2 (i := j1.toNat) (by omega)).2 i (by omega)
      apply hp
      unfold tieA at p1 p2 hg1
      unfold pairT
      rw [Prod.mk.injEq]
      omega
  · obtain ⟨j, _, h3⟩ := (up_mem 2).mp h1
    obtain ⟨j', _, h4⟩ := (up_mem 2).mp h2
    obtain ⟨v, _, h5⟩ := side_mem h3
    obtain ⟨u, _, h6⟩ := side_mem h4
    obtain ⟨⟨js, e, _⟩, _⟩ := around_sound _ _ _ _ x (by simp) h5
    obtain ⟨⟨js', e', _⟩, _⟩ := around_sound _ _ _ _ x (by simp) h6
    rw [e] at e'
    have : (i : Int) = (i' : Int) := by
      have h9 := congrArg (fun L => nx L 0) e'
      exact h9
    omega
end Go.Proofs.Ytaegldcifhgnmaa.B

/- The law package's ties, as the kit's print writes it. -/
namespace Go.Proofs.Ytaegldcifhgnmaa.B
open Go.Proofs.Ytaegldcifhgnmaa.A
open Go.RowKit Go.Proofs.YtaegldcifhgnmaaW.PrintWords Go.Proofs.YtaegldcifhgnmaaW.PrintLast Go.Proofs.YtaegldcifhgnmaaW.PrintMore
section
attribute [local go_sem] max2_int min2_int max_two min_two max_three min_three max_four min_four   -- for this text's walks alone
set_option linter.unusedVariables false
set_option linter.unusedSimpArgs false
theorem eqA39 (d : Nat) (w : World) (x0 y0 : Int) (x1 y1 : Int) (x2 y2 : Bool) :
    (Op.equalIn (d + 2) 39 (.agg #[.int .i64 x0, .int .i64 x1, .bool x2]) (.agg #[.int .i64 y0, .int .i64 y1, .bool y2])).run Try.prog w = .ok (x0 == y0 && (x1 == y1 && (x2 == y2))) w := by
  refine eqA_of Try.underlying39 (by kernel_rfl) ?_
  refine eqf_cons (by rfl) (by go_simp; rfl) (by go_simp; rfl) (by go_simp) ?_
  refine eqf_cons (by rfl) (by go_simp; rfl) (by go_simp; rfl) (by go_simp) ?_
  exact eqf_last (by rfl) (by go_simp; rfl) (by go_simp; rfl) (by go_simp)
attribute [local go_sem high] eqA39
/-! ### drovewaylaw09_ties: function 23 -/
def drovewaylaw09_ties.l0 : Nat → List (S39) → List (S39) → Int → Option (Bool)
  | 0, _, _, _ => none
  | k + 1, x0, x1, x5 => if x5 < (x0.length : Int) then (if 0 ≤ x5 then (if x5 < (x1.length : Int) then (if (!(((rd_T39 x0 x5).f0) == ((rd_T39 x1 x5).f0)) || (!(((rd_T39 x0 x5).f1) == ((rd_T39 x1 x5).f1)) || (!(((rd_T39 x0 x5).f2) == ((rd_T39 x1 x5).f2))))) = true then (some false) else (drovewaylaw09_ties.l0 k x0 x1 (wrap64 (x5 + 1)))) else (none)) else (none)) else (some true)
def drovewaylaw09_ties.f (k : Nat) (l0 : List (S39)) (l1 : List (S39)) : Option (Bool) := if (l0.length : Int) = (l1.length : Int) then (drovewaylaw09_ties.l0 k l0 l1 0) else (some false)
end
end Go.Proofs.Ytaegldcifhgnmaa.B

/- The law package's small functions, as they are called. -/
namespace Go.Proofs.Ytaegldcifhgnmaa.B
open Go.Proofs.Ytaegldcifhgnmaa.A
open Go.RowKit Go.Proofs.YtaegldcifhgnmaaW.PrintWords Go.Proofs.YtaegldcifhgnmaaW.PrintMore
theorem few_c (A : Option Addr) (c : Nat) (l : List S39) (A2 : Option Addr) (c2 : Nat) (r : List Int) (w : World) (hr : Kd.C k39 w A l.length l) (hc : l.length ≤ c) (hr2 : Kd.C (Kd.int .i64) w A2 r.length r) (hc2 : r.length ≤ c2) (b : Bool) (hb : decide (l.length ≤ 60 ∧ r.length ≤ 60) = b) :
    Calls Try.prog 16 #[.slice A l.length c, .slice A2 r.length c2] w fun e w' => e = .returned (.bool b) ∧ Below w.heap.size w w' :=
  (drovewaylaw09_few.calls A c l A2 c2 r b w hr hc hr2 hc2 (by rw [few_eq, hb])).mono fun _ _ ⟨p, q⟩ => ⟨p, q.below⟩
theorem Ties_c (n : Int) (A : Option Addr) (c : Nat) (l : List S39) (w : World) (hr : Kd.C k39 w A l.length l) (hc : l.length ≤ c) (hl : l.length ≤ 1000) (E : Int) (hE : tiesE n l = E) :
    Calls Try.prog 24 #[.int .i64 n, .slice A l.length c] w fun e w' => e = .returned (.int .i64 E) ∧ Below w.heap.size w w' := by
  obtain ⟨k, hk⟩ := (Ties_ev (n := n) hl).rounds
  rw [hE] at hk
  exact (drovewayref09_Ties.calls k n A c l E w hr hc hk).mono fun _ _ ⟨p, q⟩ => ⟨p, q.below⟩
end Go.Proofs.Ytaegldcifhgnmaa.B

/- FeudsApart: the law, walked. (Printed by gen_x7.py.) -/
namespace Go.Proofs.Ytaegldcifhgnmaa.B
open Go.Proofs.Ytaegldcifhgnmaa.A
open Go.RowKit Go.Proofs.YtaegldcifhgnmaaW.PrintWords Go.Proofs.YtaegldcifhgnmaaW.PrintMore
set_option linter.unusedSimpArgs false
/-- Rows and an error. -/
def ApPost (Z : List (List Int)) (E : Int) (w : World) (e : Ending) (w' : World) : Prop :=
  ∃ (v : Value) (P : List RowT), e = .returned (.tuple #[v, .int .i64 E]) ∧ kR.R 28 w' w.heap.size (fun _ => True) v P ∧ (P.map fun x => x.2) = Z ∧ (∀ x ∈ P, RowOk w' x) ∧ Below w.heap.size w w'
end Go.Proofs.Ytaegldcifhgnmaa.B

/- Apart, walked. -/
namespace Go.Proofs.Ytaegldcifhgnmaa.A
open Go.RowKit Go.Proofs.YtaegldcifhgnmaaW.PrintWords Go.Proofs.YtaegldcifhgnmaaW.PrintMore
open Go.Proofs.Ytaegldcifhgnmaa.B (firstA firstA_low firstA_step firstA_small firstA_bd)
/-- What Apart returns of a good list: the sorted first lists' longest search. -/
def ApartPost (l : List S39) (n : Nat) (w : World) (e : Ending) (w' : World) : Prop :=
  ∃ (v : Value) (ks : List Nat) (ys : List RowT), e = .returned (.tuple #[v, .int .i64 0]) ∧ ks.Nodup ∧ (∀ k, k ∈ ks ↔ firstA l (n + 1) k ≠ none) ∧ (ys.map fun x => some x.2).Perm (ks.map (firstA l (n + 1))) ∧ ys.Pairwise (fun x y => cmpL x.2 y.2 ≤ 0) ∧
    kR.R 28 w' w.heap.size (fun _ => True) v (lpB keyR ys ys.length 0 [] []) ∧ (∀ x ∈ lpB keyR ys ys.length 0 [] [], RowOk w' x) ∧ Below w.heap.size w w'

set_option maxRecDepth 100000 in
set_option maxHeartbeats 800000 in
theorem apart_full (n : Int) (A : Option Addr) (c : Nat) (l : List S39) (w : World) (hr : Kd.C k39 w A l.length l) (h : tiesE n l = 0) (h0 : 10 < l.length) :
    Calls Try.prog 43 #[.int .i64 n, .slice A l.length c] w fun e w' => e = .returned (.tuple #[.slice none 0 0, .int .i64 8]) ∧ Below w.heap.size w w' := by
  have HR := Aside0.mk hr
  have HE := Aside0.mk h
  have hg : (10 : Int) < (l.length : Int) := by omega
  clear hr h h0
  go_enter Try.func43, Try.ntmps43
  go_wp2_with (go_at_call 46; refine (read_good HR.out HE.out).mono ?_; rintro e w' ⟨rfl, hb'⟩; have HB := Aside0.mk hb'; clear hb')
  go_ret2
  exact ⟨rfl, below_alloc HB.out _⟩

set_option maxRecDepth 100000 in
set_option maxHeartbeats 3200000 in
theorem apart_good (n : Nat) (A : Option Addr) (c : Nat) (l : List S39) (w : World) (hr : Kd.C k39 w A l.length l) (h : tiesE n l = 0) (h10 : l.length ≤ 10) :
    Calls Try.prog 43 #[.int .i64 n, .slice A l.length c] w (ApartPost l n w) := by
  have hn : n ≤ 8 := by have := (tiesE_parts h).1; omega
  have HR := Aside0.mk hr
  have HSM := Aside0.mk (tiesE_small h)
  have HE := Aside0.mk h
  have HG := Aside0.mk (tiesE_good h)
  have HCA : Aside0 (∀ ad, A = some ad → 0 < l.length → ad.block < w.heap.size) := ⟨fun ad e hp => by
    obtain ⟨ad', e', hx, _⟩ := at_T39 hr 0 (by omega) (by omega)
    rw [e] at e'
    cases e'
    have := World.block_lt_of_cell? w _ hx
    rwa [add_block] at this⟩
  have hg : ¬ (10 : Int) < (l.length : Int) := by omega
  clear hr h
  have hmm := @run_makeMap Try.prog
  go_enter Try.func43, Try.ntmps43
  go_wp2_with (go_at_call 46; refine (read_good HR.out HE.out).mono ?_; rintro e w1 ⟨rfl, hb1⟩; have HB1 := Aside0.mk (below_alloc hb1 (.cells #[.int .i64 (n : Int), .slice A l.length c] 59)); have HB0 := Aside0.mk hb1; clear hb1)
  have HB2 : Aside0 (Below w1.heap.size w1 ((w1.alloc (.cells #[.int .i64 (n : Int), .slice A l.length c] 59)).alloc (.map #[] 0))) := ⟨below_alloc (below_alloc (Below.refl _ _) _) _⟩
  have HFS : Aside0 (FirstIs (w1.heap.size + 1 + 1) (w1.heap.size + 1) (fun _ => none) (fun j => j = w1.heap.size + 1 ∨ j = w1.heap.size + 1 + 1) (((w1.alloc (.cells #[.int .i64 (n : Int), .slice A l.length c] 59)).alloc (.map #[] 0)).alloc (.cells #[.map (some (w1.heap.size + 1))] 76))) := ⟨by
    have := first_start (w1.alloc (.cells #[.int .i64 (n : Int), .slice A l.length c] 59))
    rw [show (w1.alloc (.cells #[.int .i64 (n : Int), .slice A l.length c] 59)).heap.size = w1.heap.size + 1 by simp] at this
    exact this⟩
  have HX0 : Aside0 ((((w1.alloc (.cells #[.int .i64 (n : Int), .slice A l.length c] 59)).alloc (.map #[] 0)).alloc (.cells #[.map (some (w1.heap.size + 1))] 76)).heap[w1.heap.size]? = some (.cells #[.int .i64 (n : Int), .slice A l.length c] 59 (0, 0))) := ⟨blk_alloc (blk_alloc (heap_alloc_new _ _) _) _⟩
  have HBL : Aside0 (Below w1.heap.size w1 (((w1.alloc (.cells #[.int .i64 (n : Int), .slice A l.length c] 59)).alloc (.map #[] 0)).alloc (.cells #[.map (some (w1.heap.size + 1))] 76))) := ⟨below_alloc HB2.out _⟩
  have HWG : Aside0 (w.heap.size ≤ w1.heap.size) := ⟨HB0.out.size⟩
  clear HB1 HB2 hmm
  generalize hh1 : w1.heap.size = h1 at HFS HX0 HBL HWG ⊢
  have HH1 := Aside0.mk hh1
  clear hh1
  go_loopg [9] (n + 1) (fun gg v9 wr => ∃ (k : Nat) (S : Nat → Prop), 3 ≤ k ∧ k ≤ max 3 (n + 1) ∧ n + 1 - k ≤ gg ∧ v9 = .int .i64 k ∧ Aside0 (wr.heap[h1]? = some (.cells #[.int .i64 (n : Int), .slice A l.length c] 59 (0, 0)) ∧ Below h1 w1 wr ∧ (∀ j, S j → h1 < j)) ∧ Aside0 (FirstIs (h1 + 1 + 1) (h1 + 1) (firstA l k) S wr))
  case atStart => exact ⟨3, fun j => j = h1 + 1 ∨ j = h1 + 1 + 1, Nat.le_refl _, by omega, by omega, rfl, ⟨HX0.out, HBL.out, fun j hj => by omega⟩, ⟨by rw [firstA_low l 3 (Nat.le_refl _)]; exact HFS.out⟩⟩
  case round =>
    clear HX0 HBL HFS
    obtain ⟨k, S, hk3, hkm, hgg, rfl, HI, HF⟩ := hrel
    obtain ⟨n0, n1, _, _⟩ := cells2 HI.out.1
    by_cases hlt : k ≤ n
    · have hltz : (k : Int) ≤ (n : Int) := by omega
      have hcall := Aside0.mk (rings_calls (n := n) (c := c) (A := A) (first_visitor (cb := h1 + 1 + 1) (mb := h1 + 1)) (k - 1) (by omega) (show k = k - 1 + 1 by omega) HSM.out (by omega) (firstA l k) wr HF.out (Kd.C_below (Kd.C_below HR.out HB0.out) (by rw [HH1.out]; exact HI.out.2.1)) (fun ad e hp hs => by have h1 := HCA.out ad e hp; have h2 := HI.out.2.2 _ hs; have h3 := HWG.out; omega))
      have hst := firstA_step l hk3
      rw [← hst] at hcall
      clear hst
      go_wp2_with (go_at_call 65; go_must (refine hcall.out.mono ?_; rintro e w2 ⟨rfl, S', k1, k2, k3⟩; have K1 := Aside0.mk k1; have K2 := Aside0.mk k2; have K3 := Aside0.mk k3; clear k1 k2 k3))
      have hg1 : h1 < wr.heap.size := blk_lt HI.out.1
      go_roundg (n + 1 - (k + 1))
      case measure => omega
      case rel => exact ⟨k + 1, S', by omega, by omega, by omega, by go_num, ⟨(K3.out.block h1 hg1 (fun hs => by have := HI.out.2.2 _ hs; omega)).trans HI.out.1, HI.out.2.1.trans (K3.out.below (B := h1) (by omega) (fun j hj => by have := HI.out.2.2 _ hj; omega)), fun j hj => by rcases K2.out j hj with h | h; exact HI.out.2.2 _ h; omega⟩, K1⟩
    · have hltz : ¬ (k : Int) ≤ (n : Int) := by omega
      have hke : firstA l k = firstA l (n + 1) := by
        by_cases h : k = n + 1
        · rw [h]
        · rw [firstA_low l k (by omega), firstA_low l (n + 1) (by omega)]
      rw [hke] at HF
      obtain ⟨F, hF⟩ : ∃ F, firstA l (n + 1) = F := ⟨_, rfl⟩
      rw [hF] at HF
      have HFE := Aside0.mk hF
      obtain ⟨D, d0, d1, d2⟩ := HF.out.map
      have D0 := Aside0.mk d0
      have D1 := Aside0.mk d1
      have D2 := Aside0.mk d2
      obtain ⟨a0, _⟩ := cells1 (blk_alloc HF.out.cell (.cells #[.slice none 0 0] 53))
      have HSM2 : Aside0 (∀ k, F k ≠ none → k < 1024) := ⟨fun k hk => by rw [← hF] at hk; have h2 := firstA_small HG.out hk; have h3 : 2 ^ l.length ≤ 2 ^ 10 := Nat.pow_le_pow_right (by decide) h10; omega⟩
      have HBD2 : Aside0 (∀ k b, F k = some b → ∀ i ∈ b, 0 ≤ i ∧ i < 60) := ⟨fun k b hb i hi => by rw [← hF] at hb; have := firstA_bd HG.out hb i hi; omega⟩
      have HIB := Aside0.mk HI.out.2.1
      have hg1 : h1 < wr.heap.size := blk_lt HI.out.1
      clear d0 d1 d2 hF hke n0 n1 HI
      go_wp2_with (at_range; go_must (refine wpList_range_own _ rfl _ 76 rfl 3 28 keyed3 Try.underlying76 RV (h1 + 1) (Maps.size D) D rfl (D0.out.alloc _) ?_; intro w5 hrg5 hg5 hs5; have HC5 := Aside0.mk (coll_start HF.out D2.out hrg5 hg5); clear hrg5 hg5 hs5))
      obtain ⟨W0, rfl⟩ : ∃ W0 : World, W0 = wr := ⟨_, rfl⟩
      clear a0
      go_loopg [12] (Maps.size D) (fun gg _ wq => ∃ (left : Lit → Bool) (cnt : Nat) (v : Value) (ks : List Nat) (xs : List RowT), cnt ≤ gg ∧ Aside0 (CollSt W0 (h1 + 1) (Maps.size D) D F left cnt v ks xs wq))
      case atStart => exact ⟨_, _, _, _, _, Nat.le_refl _, HC5⟩
      case round =>
        clear HC5
        obtain ⟨left, cnt, v, ks, xs, hcg, HC⟩ := hrel
        obtain ⟨A5, c5, hv5, _, _⟩ := Kd.R_reads HC.out.rx
        subst hv5
        have hx9 := HC.out.few HSM2.out
        go_wp2_with (at_next; refine wpList_next_ranges _ rfl _ rfl 3 keyed3 RV (Value.int .i64) (fun v => v) (fun key kl hk => by obtain ⟨x, rfl, _⟩ := Maps.keyOf_int_inv Try.underlying3 hk; exact ⟨x, rfl⟩) (fun v y _ => ⟨v, rfl⟩) (h1 + 1) (W0.heap.size + 1) (Maps.size D) D left cnt rfl HC.out.rg ?_ ?_)
        · intro hc0 hl0
          obtain ⟨l2, lf2⟩ := cells1 HC.out.cx
          have HLL := Aside0.mk hl0
          have eg := enters70
          clear hl0
          go_wp2_with (first
            | (go_at_call 69; go_must (refine (sortR_any HC.out.rx HC.out.ok (by omega)).mono ?_; rintro e w6 ⟨rfl, ys, hperm, hpw, hr6, hg6⟩; obtain ⟨hc6, hok6, hb6⟩ := HC.out.sorted hperm hg6; have HON := Aside0.mk (on_start hc6 hr6 hok6); have HPE := Aside0.mk hperm; have HPW := Aside0.mk hpw; have HB6 := Aside0.mk hb6; have HY : Aside0 (ys.length ≤ 100000) := ⟨by rw [hperm.length_eq]; omega⟩; have HYB : Aside0 (∀ x ∈ ys, ∀ i ∈ x.2, 0 ≤ i ∧ i < 60) := ⟨fun x hx => by obtain ⟨k2, _, h2⟩ := HC.out.mem (hperm.mem_iff.1 hx); exact HBD2.out k2 _ h2⟩; clear hperm hpw hr6 hg6 hc6 hok6 hb6 l2 lf2))
            | (go_at_fn 70; go_must (refine (on70_all HY.out HYB.out ys.length 0 0 [] [] _ _ _ HON.out (Nat.zero_add _) (by decide) (Nat.le_refl _)).mono ?_; rintro e w8 ⟨rfl, vn8, vb8, h8⟩; obtain ⟨l8, _⟩ := cells1 h8.cb; have H8 := Aside0.mk h8; obtain ⟨A8, c8, hv8, _, _⟩ := Kd.R_reads h8.rb; subst hv8; clear h8)))
          go_ret2
          have hsz : w.heap.size ≤ W0.heap.size := Nat.le_trans HB0.out.size HIB.out.size
          refine ⟨_, ks, ys, rfl, HC.out.nd, by rw [HFE.out]; exact HC.out.fin HLL.out, ?_, HPW.out, Kd.R_lower H8.out.rb (by omega), fun x hx => H8.out.ok x (H8.out.bs x hx), ?_⟩
          · rw [HFE.out, HC.out.me]
            exact HPE.out.map _
          · have hw0 : Below w.heap.size w W0 := HB0.out.trans (HIB.out.mono (by rw [← HH1.out]; exact HB0.out.size))
            have h6 : Below w.heap.size W0 w6 := HB6.out.mono hsz
            have h7 : Below w.heap.size w6 (((w6.alloc (.cells #[.slice none 0 0] 53)).alloc (.cells #[.slice none 0 0] 53)).alloc (.cells #[onV70 (w6.heap.size + 1) w6.heap.size W0.heap.size (w6.heap.size + 1 + 1)] 83)) := (below_alloc (below_alloc (below_alloc (Below.refl w6.heap.size w6) _) _) _).mono (Nat.le_trans hsz HB6.out.size)
            exact ((hw0.trans h6).trans h7).trans (H8.out.bl.mono (by omega))
        · intro x cv kl yd yp w2 cnt2 hkey hlk hv hat hrg2 hlt hg2 hs2 hen
          obtain ⟨k', z, rfl, hfk, hcv, hok⟩ := new_entry (y := (yd, yp)) D1.out D2.out (HC.out.lh _ hlk) hv hat
          obtain ⟨hb1, hc1, hr1, hok1, hbig⟩ := HC.out.came hg2 hrg2
          obtain ⟨⟨zg, zc⟩, zb⟩ := z
          have hcv' : cv = .slice (some ⟨zg, 0, none⟩) zb.length zc := hcv
          subst hcv'
          try dsimp only at hen
          obtain ⟨l2, lf2⟩ := cells1 hc1
          have HR2 := Aside0.mk hr1
          have HC1 := Aside0.mk hc1
          have HFK : Aside0 (F k' = some zb) := ⟨hfk⟩
          have HOK := Aside0.mk hok
          have HLK := Aside0.mk hlk
          have HG2 := Aside0.mk hg2
          have HRG := Aside0.mk hrg2
          have HBB := Aside0.mk hb1
          clear hkey hlk hv hat hrg2 hg2 hs2 hcv hfk hok hb1 hc1 hr1 hok1
          go_wp2_with (at_builtin; go_must (refine Kd.R_append kR (w0 := w2) (W0.heap.size + 1) rfl (.tmp 46) (.tmp 48) 53 28 (.slice none 0 0) 24 rfl Try.underlying53 info28 rfl (by decide) (by decide) (.slice A5 xs.length c5) xs ((zg, zc), zb) [encR ((zg, zc), zb)] (fun _ => True) (fun _ => False) rfl rfl rfl (fun _ hk => hk.elim) (fun _ _ => trivial) HR2.out (Below.refl _ _) (by omega) (by omega) ?_; intro v4 w4 ho _ hg4 hat4; obtain ⟨l4, lf4⟩ := cells1 ((hg4.block W0.heap.size (by omega) (fun e => by have := Kd.R_base HR2.out _ e.symm; omega)).trans HC1.out); have HC4 := Aside0.mk (HC.out.put HLK.out (y := ((zg, zc), zb)) HFK.out HOK.out HG2.out HRG.out hg4 ho); obtain ⟨A4, c4, hv4, _, _⟩ := Kd.R_reads ho; rw [show (xs ++ [((zg, zc), zb)]).length = xs.length + 1 from by simp] at hv4; subst hv4; clear ho hg4 hat4 l2 lf2))
          go_roundg cnt2
          case measure => omega
          case rel => exact ⟨_, _, _, _, _, Nat.le_refl _, HC4⟩
end Go.Proofs.Ytaegldcifhgnmaa.A

/- FeudsApart: both lists are one; the law. -/
namespace Go.Proofs.Ytaegldcifhgnmaa.B
open Go.Proofs.Ytaegldcifhgnmaa.A
open Go.RowKit Go.Proofs.YtaegldcifhgnmaaW.PrintWords Go.Proofs.YtaegldcifhgnmaaW.PrintMore
variable {l : List S39}
/-- The odd rings' lists, ascending. -/
def ascR (l : List S39) : List (List Int) := (ringsR l).mergeSort fun a b => decide (cmpL a b ≤ 0)
theorem asc_perm (l : List S39) : (ascR l).Perm (ringsR l) := List.mergeSort_perm _ _
theorem asc_pair (l : List S39) : (ascR l).Pairwise fun a b => cmpL a b ≤ 0 := by
  have h := List.pairwise_mergeSort (le := fun a b : List Int => decide (cmpL a b ≤ 0)) (fun a b c h1 h2 => decide_eq_true (cmpL_trans a b c (of_decide_eq_true h1) (of_decide_eq_true h2))) (fun a b => by
    rw [Bool.or_eq_true, decide_eq_true_iff, decide_eq_true_iff]
    have := cmpL_swap a b
    omega) (ringsR l)
  exact h.imp fun h => of_decide_eq_true h
theorem asc_one {M : List (List Int)} (hp : M.Perm (ringsR l)) (hs : M.Pairwise fun a b => cmpL a b ≤ 0) : M = ascR l :=
  List.Perm.eq_of_pairwise (le := fun a b => cmpL a b ≤ 0) (fun a b _ _ h1 h2 => by
    have := cmpL_swap a b
    exact cmpL_eq a b (by omega)) hs (asc_pair l) (hp.trans (asc_perm l).symm)
theorem prog_one {n : Nat} (ht : tiesE n l = 0) {ks : List Nat} {ys : List RowT} (hnd : ks.Nodup) (hk : ∀ k, k ∈ ks ↔ firstA l (n + 1) k ≠ none) (hp : (ys.map fun x => some x.2).Perm (ks.map (firstA l (n + 1)))) (hs : ys.Pairwise fun x y => cmpL x.2 y.2 ≤ 0) : (ys.map fun x => x.2) = ascR l := by
  have hp2 : ((ys.map fun x => x.2).map some).Perm (ks.map (firstA l (n + 1))) := by rw [List.map_map]; exact hp
  obtain ⟨h1, h2⟩ := prog_lists ht hnd hk hp2
  refine asc_one ?_ (List.pairwise_map.mpr hs)
  exact (List.perm_ext_iff_of_nodup h2 (rings_nodup ht)).mpr fun x => (h1 x).trans (rings_mem ht x).symm

/-! ### the search, on the lists alone -/
theorem getD_map2 (xs : List RowT) (k : Nat) : (xs.map fun x => x.2).getD k default = (xs.getD k default).2 := by
  simp only [List.getD_eq_getElem?_getD, List.getElem?_map]
  cases xs[k]? <;> rfl
theorem disj_key (used : Nat) (xs : List RowT) (k : Nat) : disjB used (keyR (xs.getD k default)) = disjB used ((xs.map fun x => x.2).getD k default) := by rw [getD_map2]; rfl
theorem upd_map (a b : List RowT) : (updL a b).map (fun x => x.2) = updL (a.map fun x => x.2) (b.map fun x => x.2) := by
  unfold updL
  rw [List.length_map, List.length_map]
  split <;> rfl
theorem lg_map (all : List RowT) : ∀ d used now best, (lgB keyR all d used now best).map (fun x => x.2) = lgB (fun x => x) (all.map fun x => x.2) d used (now.map fun x => x.2) (best.map fun x => x.2)
  | 0, _, _, _ => rfl
  | d + 1, used, now, best => by
    rw [lgB, lgB, List.length_map, ← disj_key, lg_map all d]
    congr 1
    split
    · rw [upd_map, lg_map all d, List.map_append, List.map_singleton, getD_map2]; rfl
    · rfl
/-- What Apart gives. -/
def apartF (l : List S39) : List (List Int) := lgB (fun x => x) (ascR l) (ascR l).length 0 [] []
theorem apart_one {rows : List RowT} (h : (rows.map fun x => x.2) = ascR l) : (lgB keyR rows rows.length 0 [] []).map (fun x => x.2) = apartF l := by
  have hl : rows.length = (ascR l).length := by rw [← h, List.length_map]
  rw [lg_map, h, hl]; rfl
end Go.Proofs.Ytaegldcifhgnmaa.B

/- FeudsFewest: what the longest list of rings is like (plain). -/
namespace Go.Proofs.Ytaegldcifhgnmaa.B
open Go.Proofs.Ytaegldcifhgnmaa.A
open Go.RowKit Go.Proofs.YtaegldcifhgnmaaW.PrintWords Go.Proofs.YtaegldcifhgnmaaW.PrintMore
/-- No tie is in two lists. -/
def PD (b : List (List Int)) : Prop := b.Pairwise fun x y => ∀ i, i ∈ x → i ∉ y
theorem upd_or {α : Type} (a b : List α) : updL a b = a ∨ updL a b = b := by
  unfold updL
  split
  · exact .inl rfl
  · exact .inr rfl
theorem upd_le {α : Type} (a b : List α) : a.length ≤ (updL a b).length ∧ b.length ≤ (updL a b).length := by
  unfold updL
  split <;> omega
theorem lg_ge {α : Type} [Inhabited α] (key : α → List Int) (all : List α) : ∀ d used now best, best.length ≤ (lgB key all d used now best).length
  | 0, _, _, _ => Nat.le_refl _
  | d + 1, used, now, best => by
    rw [lgB]
    refine Nat.le_trans ?_ (lg_ge key all d _ _ _)
    split
    · exact (upd_le _ _).2
    · exact Nat.le_refl _
theorem lg_good (L : List (List Int)) (hpos : ∀ x ∈ L, ∀ i ∈ x, 0 ≤ i) : ∀ d, d ≤ L.length → ∀ used now best, (now.Sublist (L.take (L.length - d)) ∧ PD now ∧ ∀ j, used.testBit j = true ↔ ∃ x ∈ now, ∃ i ∈ x, i.toNat = j) → (best.Sublist L ∧ PD best) →
    (lgB (fun x => x) L d used now best).Sublist L ∧ PD (lgB (fun x => x) L d used now best)
  | 0, _, _, _, _, _, hb => hb
  | d + 1, hd, used, now, best, hn, hb => by
    obtain ⟨h1, h2, h3⟩ := hn
    have hk : L.length - (d + 1) < L.length := by omega
    have hmem : L.getD (L.length - (d + 1)) default ∈ L := getD_mem default hk
    have htake : L.take (L.length - d) = L.take (L.length - (d + 1)) ++ [L.getD (L.length - (d + 1)) default] := by
      rw [show L.length - d = (L.length - (d + 1)) + 1 by omega, List.take_succ_eq_append_getElem hk, List.getD_eq_getElem?_getD, List.getElem?_eq_getElem hk]; rfl
    rw [lgB]
    generalize L.getD (L.length - (d + 1)) default = x at hmem htake
    refine lg_good L hpos d (by omega) used now _ ⟨h1.trans (by rw [htake]; exact List.sublist_append_left _ _), h2, h3⟩ ?_
    split
    · rename_i hd2
      have hnow : (now ++ [x]).Sublist (L.take (L.length - d)) := by rw [htake]; exact h1.append (List.Sublist.refl _)
      have hdis : ∀ y ∈ now, ∀ i, i ∈ y → i ∉ x := fun y hy i hi hix => by
        unfold disjB at hd2
        have h4 := List.all_eq_true.mp hd2 i hix
        rw [(h3 i.toNat).mpr ⟨y, hy, i, hi, rfl⟩] at h4
        exact absurd h4 (by decide)
      have hpd : PD (now ++ [x]) := List.pairwise_append.mpr ⟨h2, List.pairwise_singleton _ _, fun y hy z hz => by rw [List.mem_singleton.mp hz]; exact hdis y hy⟩
      have hbits : ∀ j, (used ||| setI x).testBit j = true ↔ ∃ y ∈ now ++ [x], ∃ i ∈ y, i.toNat = j := fun j => by
        rw [Nat.testBit_or, Bool.or_eq_true, h3, setI_bit, List.any_eq_true]
        constructor
        · rintro (⟨y, hy, h⟩ | ⟨i, hi, e⟩)
          · exact ⟨y, List.mem_append_left _ hy, h⟩
          · exact ⟨x, List.mem_append_right _ (List.mem_singleton_self x), i, hi, of_decide_eq_true e⟩
        · rintro ⟨y, hy, i, hi, e⟩
          rcases List.mem_append.mp hy with hy | hy
          · exact .inl ⟨y, hy, i, hi, e⟩
          · rw [List.mem_singleton.mp hy] at hi
            exact .inr ⟨i, hi, decide_eq_true e⟩
      have hr := lg_good L hpos d (by omega) (used ||| setI x) (now ++ [x]) (now ++ [x]) ⟨hnow, hpd, hbits⟩ ⟨hnow.trans (List.take_sublist _ _), hpd⟩
      rcases upd_or (lgB (fun x => x) L d (used ||| setI x) (now ++ [x]) (now ++ [x])) best with e | e
      · rw [e]; exact hr
      · rw [e]; exact hb
    · exact hb
variable {l : List S39}
theorem asc_mem {n : Nat} (ht : tiesE n l = 0) (x : List Int) : x ∈ ascR l ↔ OddRing l x ∧ Canon x := (asc_perm l).mem_iff.trans (rings_mem ht x)
theorem asc_strict {n : Nat} (ht : tiesE n l = 0) : (ascR l).Pairwise fun a b => cmpL a b < 0 := by
  have h1 := asc_pair l
  have h2 : (ascR l).Pairwise fun a b => a ≠ b := (asc_perm l).nodup_iff.mpr (rings_nodup ht)
  exact (h1.and h2).imp fun h => by
    have := h.1
    rcases Int.lt_or_eq_of_le h.1 with h3 | h3
    · exact h3
    · exact absurd (cmpL_eq _ _ h3) h.2
theorem asc_pos {n : Nat} (ht : tiesE n l = 0) : ∀ x ∈ ascR l, ∀ i ∈ x, 0 ≤ i := fun x hx => ringy_pos ((asc_mem ht x).mp hx).1.2.1
/-- The list that Apart gives: odd rings, ascending, no tie in two of them. -/
theorem apart_good_list {n : Nat} (ht : tiesE n l = 0) : (∀ x ∈ apartF l, OddRing l x) ∧ (apartF l).Pairwise (fun a b => cmpL a b < 0) ∧ PD (apartF l) := by
  have h := lg_good (ascR l) (asc_pos ht) (ascR l).length (Nat.le_refl _) 0 [] [] ⟨List.nil_sublist _, List.Pairwise.nil, fun j => ⟨fun h => (by simp at h), fun ⟨_, h, _⟩ => (by cases h)⟩⟩ ⟨List.nil_sublist _, List.Pairwise.nil⟩
  exact ⟨fun x hx => ((asc_mem ht x).mp (h.1.subset hx)).1, (asc_strict ht).sublist h.1, h.2⟩
/-- There is one if there is an odd ring. -/
theorem apart_some (h : ascR l ≠ []) : apartF l ≠ [] := by
  unfold apartF
  obtain ⟨d, hd⟩ : ∃ d, (ascR l).length = d + 1 := ⟨(ascR l).length - 1, by have := List.length_pos_iff.mpr h; omega⟩
  intro e
  have h0 : (lgB (fun x => x) (ascR l) (d + 1) 0 [] []).length = 0 := by rw [← hd, e]; rfl
  rw [lgB, if_pos (by unfold disjB; rw [List.all_eq_true]; intro i _; simp)] at h0
  have h1 := lg_ge (fun x => x) (ascR l) d 0 [] (updL (lgB (fun x => x) (ascR l) d (0 ||| setI ((ascR l).getD ((ascR l).length - (d + 1)) default)) ([] ++ [(ascR l).getD ((ascR l).length - (d + 1)) default]) ([] ++ [(ascR l).getD ((ascR l).length - (d + 1)) default])) [])
  have h2 := (upd_le (lgB (fun x => x) (ascR l) d (0 ||| setI ((ascR l).getD ((ascR l).length - (d + 1)) default)) ([] ++ [(ascR l).getD ((ascR l).length - (d + 1)) default]) ([] ++ [(ascR l).getD ((ascR l).length - (d + 1)) default])) []).1
  have h3 := lg_ge (fun x => x) (ascR l) d (0 ||| setI ((ascR l).getD ((ascR l).length - (d + 1)) default)) ([] ++ [(ascR l).getD ((ascR l).length - (d + 1)) default]) ([] ++ [(ascR l).getD ((ascR l).length - (d + 1)) default])
  have h4 : ([] ++ [(ascR l).getD ((ascR l).length - (d + 1)) default]).length = 1 := rfl
  omega
end Go.Proofs.Ytaegldcifhgnmaa.B

/- Ties of the same drovers; what Least's ties are the fewest of (plain). -/
namespace Go.Proofs.Ytaegldcifhgnmaa.A
open Go.RowKit Go.Proofs.YtaegldcifhgnmaaW.PrintWords Go.Proofs.YtaegldcifhgnmaaW.PrintMore
theorem getD_map {l : List S39} {i : Nat} (hi : i < l.length) : (l.map pairT).getD i (0, 0) = pairT (l.getD i z39) := by
  rw [List.getD_eq_getElem?_getD, List.getD_eq_getElem?_getD, List.getElem?_map, List.getElem?_eq_getElem hi]; rfl
theorem pairs_get {l l' : List S39} (h : l'.map pairT = l.map pairT) {i : Nat} (hi : i < l.length) : pairT (l'.getD i z39) = pairT (l.getD i z39) := by
  have hl : l'.length = l.length := by have := congrArg List.length h; simpa using this
  rw [← getD_map hi, ← getD_map (show i < l'.length by omega), h]
theorem okT_pair {n : Int} {t t' : S39} (h : pairT t' = pairT t) : okT n t' = okT n t := by
  unfold pairT at h
  rw [Prod.mk.injEq] at h
  unfold okT
  rw [h.1, h.2]
theorem okAt_pairs {n : Int} {l l' : List S39} (h : l'.map pairT = l.map pairT) {i : Nat} (hi : i < l.length) : okAt n l' i = okAt n l i := by
  unfold okAt
  rw [okT_pair (pairs_get h hi), pairs_get h hi, List.map_take, List.map_take, h]
theorem okTies_pairs {n : Int} {l l' : List S39} (h : l'.map pairT = l.map pairT) : okTies n l' = okTies n l := by
  have hl : l'.length = l.length := by have := congrArg List.length h; simpa using this
  unfold okTies
  rw [hl, Bool.eq_iff_iff, List.all_eq_true, List.all_eq_true]
  constructor
  · intro q i hi
    rw [← okAt_pairs h (List.mem_range.1 hi)]; exact q i hi
  · intro q i hi
    rw [okAt_pairs h (List.mem_range.1 hi)]; exact q i hi
theorem tiesE_pairs {n : Int} {l l' : List S39} (h : l'.map pairT = l.map pairT) : tiesE n l' = tiesE n l := by
  have hl : l'.length = l.length := by have := congrArg List.length h; simpa using this
  unfold tiesE
  rw [hl, okTies_pairs h]
theorem wrongF_nil {l : List S39} {s : Nat} (h : (wrongF l s).isEmpty = true) {i : Nat} (hi : i < l.length) : wrB (l.getD i z39) s = false := by
  rw [List.isEmpty_iff] at h
  unfold wrongF wrongK at h
  rw [List.map_eq_nil_iff, List.filter_eq_nil_iff] at h
  have := h i (List.mem_range.2 hi)
  simpa using this
theorem wrongF_empty {l : List S39} {s : Nat} (h : ∀ i, i < l.length → wrB (l.getD i z39) s = false) : (wrongF l s).isEmpty = true := by
  rw [List.isEmpty_iff]
  unfold wrongF wrongK
  rw [List.map_eq_nil_iff, List.filter_eq_nil_iff]
  intro i hi
  rw [h i (List.mem_range.1 hi)]; simp
theorem leastK_le (l : List S39) : ∀ k s, s < k → (leastK l k).2.length ≤ (wrongF l s).length
  | 0, s, h => absurd h (Nat.not_lt_zero _)
  | k + 1, s, h => by
    rw [leastK]
    by_cases hs : s = k
    · subst hs
      split
      · exact Nat.le_refl _
      · omega
    · have := leastK_le l k s (by omega)
      split
      · have : (wrongF l k).length < (leastK l k).2.length := by assumption
        show (wrongF l k).length ≤ _
        omega
      · exact this
theorem leastK_spec (l : List S39) : ∀ k, 0 < k → (leastK l k).1 < k ∧ (leastK l k).2 = wrongF l (leastK l k).1 ∧ ∀ s, s < (leastK l k).1 → (leastK l k).2.length < (wrongF l s).length
  | 0, h => absurd h (Nat.lt_irrefl _)
  | k + 1, _ => by
    rw [leastK]
    by_cases h0 : k = 0
    · subst h0
      have e : leastK l 0 = (0, wrongF l 0) := rfl
      rw [e]
      rw [if_neg (Nat.lt_irrefl _)]
      exact ⟨Nat.zero_lt_one, rfl, fun s hs => absurd hs (Nat.not_lt_zero _)⟩
    · obtain ⟨i1, i2, i3⟩ := leastK_spec l k (by omega)
      split
      · rename_i hlt
        refine ⟨Nat.lt_succ_self _, rfl, fun s hs => ?_⟩
        have := leastK_le l k s hs
        show (wrongF l k).length < _
        omega
      · exact ⟨by omega, i2, i3⟩
theorem sidesN_some {m : Nat} {l : List S39} {s : Nat} (h : sidesN m l = some s) : s < 2 ^ m ∧ (wrongF l s).isEmpty = true := by
  unfold sidesN at h
  rw [List.find?_range_eq_some] at h
  exact ⟨List.mem_range.1 h.2.1, h.1⟩
theorem sidesN_none {m : Nat} {l : List S39} (h : sidesN m l = none) (s : Nat) (hs : s < 2 ^ m) : (wrongF l s).isEmpty = false := by
  unfold sidesN at h
  rw [List.find?_range_eq_none] at h
  simpa using h s hs
end Go.Proofs.Ytaegldcifhgnmaa.A

/- Paths and rings: a set with which all ties are calm, or an odd ring (plain). -/
namespace Go.Proofs.Ytaegldcifhgnmaa.B
open Go.Proofs.Ytaegldcifhgnmaa.A
open Go.RowKit Go.Proofs.YtaegldcifhgnmaaW.PrintWords Go.Proofs.YtaegldcifhgnmaaW.PrintMore
section
variable {l : List S39}
/-! ### calm ties -/
theorem other_cross {t : S39} (h0 : 0 ≤ t.f0) (h1 : t.f0 < t.f1) {a b : Nat} (h : otherN t a = some b) (s : Nat) : crossB t s = (s.testBit a != s.testBit b) := by
  have hp := other_parts h0 h1 h
  have ha := hasB_iff.mp hp.1
  have hb := hasB_iff.mp hp.2.1
  unfold crossB
  by_cases e : t.f0.toNat = a
  · have : t.f1.toNat = b := by omega
    rw [e, this]
  · have e1 : t.f1.toNat = a := by omega
    have e2 : t.f0.toNat = b := by omega
    rw [e1, e2]
    cases s.testBit a <;> cases s.testBit b <;> rfl
theorem other_swap {t : S39} (h0 : 0 ≤ t.f0) (h1 : t.f0 < t.f1) {a b : Nat} (h : otherN t a = some b) : otherN t b = some a := by
  have hp := other_parts h0 h1 h
  exact other_has h1 hp.2.1 hp.1 (Ne.symm hp.2.2)
theorem par_add (a b : Nat) : ((a + b) % 2 == 1) = ((a % 2 == 1) != (b % 2 == 1)) := by
  have ha : a % 2 = 0 ∨ a % 2 = 1 := by omega
  have hb : b % 2 = 0 ∨ b % 2 = 1 := by omega
  rcases ha with ha | ha <;> rcases hb with hb | hb
  all_goals rw [Nat.add_mod, ha, hb]; decide
theorem par_fe (t : S39) : (feT t % 2 == 1) = t.f2 := by
  unfold feT
  cases t.f2 <;> rfl
theorem WT_par (hg : goodT l) {s : Nat} (hc : ∀ j, inR l j → wrB (tieA l j) s = false) {fr : Nat} : ∀ (js : List Int) (at_ met : Nat), WT l fr at_ met js → (feL l js % 2 == 1) = (s.testBit at_ != s.testBit fr)
  | [], at_, _, h => by
    rw [WT] at h
    rw [h, bne_self_eq_false]; rfl
  | j :: js, at_, met, ⟨hj, v, h1, _, h3⟩ => by
    have gj := tieA_good hg hj
    have ih := WT_par hg hc js v _ h3
    have hcr := other_cross gj.1 gj.2.1 h1 s
    have hw := hc j hj
    unfold wrB at hw
    rw [feL, par_add, par_fe, ih]
    rw [hcr] at hw
    revert hw
    cases (tieA l j).f2 <;> cases s.testBit at_ <;> cases s.testBit v <;> cases s.testBit fr <;> decide
theorem ring_even (hg : goodT l) {s : Nat} (hc : ∀ j, inR l j → wrB (tieA l j) s = false) {x : List Int} (h : Ringy l x) : feL l x % 2 = 0 := by
  obtain ⟨fr, _, hw⟩ := h
  have := WT_par hg hc x _ _ hw
  rw [bne_self_eq_false, beq_eq_false_iff_ne] at this
  omega

/-! ### lists without a number twice -/
theorem nodup_le : ∀ (n : Nat) (L : List Nat), L.Nodup → (∀ x ∈ L, x < n) → L.length ≤ n
  | 0, L, _, h => by
    cases L with
    | nil => exact Nat.le_refl _
    | cons x L => exact absurd (h x List.mem_cons_self) (Nat.not_lt_zero x)
  | n + 1, L, hn, h => by
    by_cases hm : n ∈ L
    · have h1 := nodup_le n (L.erase n) (hn.erase n) (fun x hx => by
        have h2 := (List.Nodup.mem_erase_iff hn).mp hx
        have := h x h2.2
        have := h2.1
        omega)
      rw [List.length_erase_of_mem hm] at h1
      omega
    · have := nodup_le n L hn (fun x hx => by
        have h1 := h x hx
        have h2 : x ≠ n := fun e => hm (e ▸ hx)
        omega)
      omega
theorem WT_vs {n : Nat} (hg : goodT l) (hn : ∀ t ∈ l, t.f1 < n) {fr : Nat} : ∀ (js : List Int) (at_ met : Nat), WT l fr at_ met js → ∃ vs : List Nat, vs.length = js.length ∧ vs.Nodup ∧ ∀ v ∈ vs, v < n ∧ met.testBit v = false
  | [], _, _, _ => ⟨[], rfl, List.nodup_nil, fun v hv => absurd hv (by simp)⟩
  | j :: js, at_, met, ⟨hj, v, h1, h2, h3⟩ => by
    obtain ⟨vs, h4, h5, h6⟩ := WT_vs hg hn js v _ h3
    have gj := tieA_good hg hj
    have hp := other_parts gj.1 gj.2.1 h1
    have hv := hasB_iff.mp hp.2.1
    have hb : (tieA l j).f1 < n := hn _ (getD_mem z39 (by have := hj.1; have := hj.2; omega))
    refine ⟨v :: vs, by rw [List.length_cons, List.length_cons, h4], List.nodup_cons.mpr ⟨fun hm => ?_, h5⟩, fun u hu => ?_⟩
    · have := (h6 v hm).2
      rw [or_bit, Bool.or_eq_false_iff, decide_eq_false_iff_not] at this
      exact this.2 rfl
    · rcases List.mem_cons.mp hu with e | e
      · rw [e]; exact ⟨by omega, h2⟩
      · have := h6 u e
        rw [or_bit, Bool.or_eq_false_iff] at this
        exact ⟨this.1, this.2.1⟩
theorem ring_len {n : Nat} (hg : goodT l) (hn : ∀ t ∈ l, t.f1 < n) {x : List Int} (h : Ringy l x) : x.length ≤ n := by
  obtain ⟨fr, _, hw⟩ := h
  obtain ⟨vs, h1, h2, h3⟩ := WT_vs hg hn x _ _ hw
  rw [← h1]
  exact nodup_le n vs h2 (fun v hv => (h3 v hv).1)

/-! ### paths -/
def endV (a : Nat) : List (Int × Nat) → Nat
  | [] => a
  | (_, v) :: _ => v
def vertsV (a : Nat) (p : List (Int × Nat)) : List Nat := p.map Prod.snd ++ [a]
def IsPath (l : List S39) (ok : Int → Prop) (a : Nat) : List (Int × Nat) → Prop
  | [] => True
  | (j, v) :: p => (inR l j ∧ ok j) ∧ otherN (tieA l j) (endV a p) = some v ∧ v ∉ vertsV a p ∧ IsPath l ok a p
def Reach (l : List S39) (ok : Int → Prop) (a y : Nat) : Prop := ∃ p, IsPath l ok a p ∧ endV a p = y
variable {ok : Int → Prop} {a : Nat}
theorem end_mem (p : List (Int × Nat)) : endV a p ∈ vertsV a p := by
  cases p with
  | nil => simp [endV, vertsV]
  | cons q p => simp [endV, vertsV]
theorem path_to {y : Nat} : ∀ p, IsPath l ok a p → y ∈ vertsV a p → Reach l ok a y
  | [], _, hy => by
    have : y = a := by simpa [vertsV] using hy
    exact ⟨[], trivial, this.symm⟩
  | (j, v) :: p, h, hy => by
    have hy' : y = v ∨ y ∈ vertsV a p := by simpa [vertsV] using hy
    rcases hy' with e | e
    · exact ⟨(j, v) :: p, h, e.symm⟩
    · exact path_to p h.2.2.2 e
theorem reach_self : Reach l ok a a := ⟨[], trivial, rfl⟩
theorem reach_step {x y : Nat} {j : Int} (h : Reach l ok a x) (hj : inR l j) (hk : ok j) (ho : otherN (tieA l j) x = some y) : Reach l ok a y := by
  obtain ⟨p, hp, rfl⟩ := h
  by_cases hy : y ∈ vertsV a p
  · exact path_to p hp hy
  · exact ⟨(j, y) :: p, ⟨⟨hj, hk⟩, ho, hy, hp⟩, rfl⟩
theorem path_par (hg : goodT l) {s : Nat} (hc : ∀ j, inR l j → ok j → wrB (tieA l j) s = false) : ∀ p, IsPath l ok a p → (feL l (p.map Prod.fst) % 2 == 1) = (s.testBit (endV a p) != s.testBit a)
  | [], _ => by
    show (0 % 2 == 1) = (s.testBit a != s.testBit a)
    rw [bne_self_eq_false]; rfl
  | (j, v) :: p, ⟨⟨hj, hk⟩, h1, _, h3⟩ => by
    have gj := tieA_good hg hj
    have ih := path_par hg hc p h3
    have hcr := other_cross gj.1 gj.2.1 h1 s
    have hw := hc j hj hk
    unfold wrB at hw
    rw [hcr] at hw
    rw [List.map_cons, feL, par_add, par_fe, ih]
    show _ = (s.testBit v != s.testBit a)
    revert hw
    cases (tieA l j).f2 <;> cases s.testBit (endV a p) <;> cases s.testBit v <;> cases s.testBit a <;> decide
theorem path_WT (hg : goodT l) : ∀ p met, IsPath l ok a p → (∀ v ∈ vertsV a p, v ≠ endV a p → met.testBit v = false) → WT l a (endV a p) met (p.map Prod.fst)
  | [], _, _, _ => rfl
  | (j, v) :: p, met, ⟨⟨hj, _⟩, h1, h2, h3⟩, hm => by
    have gj := tieA_good hg hj
    have hne : endV a p ≠ v := fun e => h2 (by rw [← e]; exact end_mem p)
    refine ⟨hj, endV a p, other_swap gj.1 gj.2.1 h1, hm _ (by simpa [vertsV] using Or.inr (end_mem p)) hne, ?_⟩
    refine path_WT hg p _ h3 fun u hu hue => ?_
    rw [or_bit, Bool.or_eq_false_iff, decide_eq_false_iff_not]
    exact ⟨hm u (by simpa [vertsV] using Or.inr hu) (fun e => h2 (by have e2 : u = v := e; rw [← e2]; exact hu)), hue⟩
theorem tie_one {n : Int} (ht : tiesE n l = 0) {i j : Int} {a b : Nat} (hi : inR l i) (hj : inR l j) (h1 : otherN (tieA l i) a = some b) (h2 : otherN (tieA l j) a = some b) : i = j := by
  have hg := tiesE_good ht
  have gi := tieA_good hg hi
  have gj := tieA_good hg hj
  have p1 := other_parts gi.1 gi.2.1 h1
  have p2 := other_parts gj.1 gj.2.1 h2
  have q1 := hasB_iff.mp p1.1
  have q2 := hasB_iff.mp p1.2.1
  have q3 := hasB_iff.mp p2.1
  have q4 := hasB_iff.mp p2.2.1
  have e0 : (tieA l i).f0 = (tieA l j).f0 := by omega
  have e1 : (tieA l i).f1 = (tieA l j).f1 := by omega
  have hpq : pairT (tieA l i) = pairT (tieA l j) := by unfold pairT; rw [e0, e1]
  have hk := (tiesE_parts ht).2.2
  unfold inR at hi hj
  by_cases hlt : i.toNat < j.toNat
  · exact absurd hpq ((okTies_parts hk (show j.toNat < l.length by omega)).2 _ hlt)
  · by_cases hgt : j.toNat < i.toNat
    · exact absurd hpq.symm ((okTies_parts hk (show i.toNat < l.length by omega)).2 _ hgt)
    · omega
/-- A path and a tie between its ends: a ring. -/
theorem ring_of_path {n : Nat} (ht : tiesE n l = 0) (hn : ∀ t ∈ l, t.f1 < n) {m : Int} {b : Nat} (hm : inR l m) (ho : otherN (tieA l m) a = some b) (p : List (Int × Nat)) (hp : IsPath l ok a p) (he : endV a p = b) (hok : ∀ j, inR l j → ok j → j ≠ m) :
    Ringy l (m :: p.map Prod.fst) ∧ 3 ≤ (m :: p.map Prod.fst).length ∧ (m :: p.map Prod.fst).length ≤ n := by
  have hg := tiesE_good ht
  have gm := tieA_good hg hm
  have hpm := other_parts gm.1 gm.2.1 ho
  have ham := hasB_iff.mp hpm.1
  have hbm : (tieA l m).f1 < n := hn _ (getD_mem z39 (by have := hm.1; have := hm.2; omega))
  have hr : Ringy l (m :: p.map Prod.fst) := by
    refine ⟨a, ?_, hm, b, ho, Nat.zero_testBit _, ?_⟩
    · show a = (tieA l m).f0.toNat ∨ a = (tieA l m).f1.toNat
      omega
    · rw [Nat.zero_or]
      have := path_WT hg p (2 ^ b) hp (fun v _ hv => by rw [tb_two, beq_eq_false_iff_ne, ← he]; exact hv)
      rwa [he] at this
  refine ⟨hr, ?_, ring_len hg hn hr⟩
  rw [List.length_cons, List.length_map]
  cases p with
  | nil => exact absurd he hpm.2.2
  | cons q p =>
    cases p with
    | nil =>
      obtain ⟨j, v⟩ := q
      obtain ⟨⟨hj, hk⟩, h1, _, _⟩ := hp
      have h1' : otherN (tieA l j) a = some b := by rw [← he]; exact h1
      exact absurd (tie_one ht hj hm h1' ho) (hok j hj hk)
    | cons q2 p => simp only [List.length_cons]; omega

/-! ### the theorem -/
theorem bits_of (P : Nat → Prop) : ∀ n, ∃ r, r < 2 ^ n ∧ ∀ v, v < n → (r.testBit v = true ↔ P v)
  | 0 => ⟨0, by decide, fun v hv => absurd hv (Nat.not_lt_zero v)⟩
  | n + 1 => by
    obtain ⟨r, h1, h2⟩ := bits_of P n
    have hlt : r < 2 ^ (n + 1) := Nat.lt_trans h1 (Nat.pow_lt_pow_right (by decide) (Nat.lt_succ_self n))
    by_cases hp : P n
    · refine ⟨r ||| 2 ^ n, or_lt hlt (Nat.pow_lt_pow_right (by decide) (Nat.lt_succ_self n)), fun v hv => ?_⟩
      rw [or_bit, Bool.or_eq_true, decide_eq_true_iff]
      by_cases e : v = n
      · subst e; exact ⟨fun _ => hp, fun _ => Or.inr rfl⟩
      · have := h2 v (by omega)
        rw [this]
        exact ⟨fun h => h.elim id (fun h => absurd h e), Or.inl⟩
    · refine ⟨r, hlt, fun v hv => ?_⟩
      by_cases e : v = n
      · subst e
        rw [tb_big h1 (Nat.le_refl _)]
        exact ⟨fun h => absurd h Bool.false_ne_true, fun h => absurd h hp⟩
      · exact h2 v (by omega)
theorem ties_lt {n : Nat} (ht : tiesE n l = 0) : ∀ t ∈ l, t.f1 < n := by
  intro t hm
  obtain ⟨i, hi, e⟩ := List.getElem_of_mem hm
  have h2 := okT_parts (okTies_parts (tiesE_parts ht).2.2 hi).1
  have hg : l.getD i z39 = t := by rw [List.getD_eq_getElem?_getD, List.getElem?_eq_getElem hi, e]; rfl
  rw [hg] at h2
  omega
theorem calm_or {n : Nat} (ht : tiesE n l = 0) (hodd : ∀ x, 3 ≤ x.length → x.length ≤ n → Ringy l x → feL l x % 2 = 0) : ∀ m, m ≤ l.length → ∃ s, s < 2 ^ n ∧ ∀ i, i < m → wrB (l.getD i z39) s = false
  | 0, _ => ⟨0, Nat.two_pow_pos n, fun i hi => absurd hi (Nat.not_lt_zero i)⟩
  | m + 1, hm => by
    obtain ⟨s, hs, hc⟩ := calm_or ht hodd m (by omega)
    have hg := tiesE_good ht
    have hn := ties_lt ht
    by_cases hw : wrB (l.getD m z39) s = false
    · exact ⟨s, hs, fun i hi => by
        by_cases e : i = m
        · rw [e]; exact hw
        · exact hc i (by omega)⟩
    · have hin : inR l (m : Int) := ⟨by omega, by omega⟩
      have hta : ∀ i : Nat, tieA l (i : Int) = l.getD i z39 := fun i => by unfold tieA; rw [Int.toNat_natCast]
      have gm := tieA_good hg hin
      obtain ⟨a, ha⟩ : ∃ a : Nat, (tieA l (m : Int)).f0 = a := ⟨_, Int.eq_natCast_toNat.mpr gm.1⟩
      obtain ⟨b, hb⟩ : ∃ b : Nat, (tieA l (m : Int)).f1 = b := ⟨_, Int.eq_natCast_toNat.mpr (by omega)⟩
      have hab : otherN (tieA l (m : Int)) a = some b := other_has gm.2.1 (hasB_iff.mpr (Or.inl ha)) (hasB_iff.mpr (Or.inr hb)) (by omega)
      have hbn : (tieA l (m : Int)).f1 < n := hn _ (getD_mem z39 (by rw [Int.toNat_natCast]; omega))
      have hcj : ∀ j, inR l j → j < (m : Int) → wrB (tieA l j) s = false := fun j hj hjm => by
        obtain ⟨i, rfl⟩ := Int.eq_ofNat_of_zero_le hj.1
        rw [hta]; exact hc i (by omega)
      by_cases hr : Reach l (fun j => j < (m : Int)) a b
      · exfalso
        obtain ⟨p, hp, he⟩ := hr
        obtain ⟨h1, h2, h3⟩ := ring_of_path ht hn hin hab p hp he (fun j _ hj e => by omega)
        have h4 := hodd _ h2 h3 h1
        have h5 := path_par hg hcj p hp
        have h6 : (feL l ((m : Int) :: p.map Prod.fst) % 2 == 1) = false := by rw [h4]; rfl
        rw [feL, par_add, par_fe, h5, he] at h6
        have h7 := other_cross gm.1 gm.2.1 hab s
        rw [← hta] at hw
        unfold wrB at hw
        rw [h7] at hw
        revert h6 hw
        cases (tieA l (m : Int)).f2 <;> cases s.testBit a <;> cases s.testBit b <;> decide
      · obtain ⟨r, hrl, hrb⟩ := bits_of (fun v => Reach l (fun j => j < (m : Int)) a v) n
        refine ⟨s ^^^ r, Nat.xor_lt_two_pow hs hrl, fun i hi => ?_⟩
        have hini : inR l (i : Int) := ⟨by omega, by omega⟩
        have gi := tieA_good hg hini
        obtain ⟨u, hu⟩ : ∃ u : Nat, (tieA l (i : Int)).f0 = u := ⟨_, Int.eq_natCast_toNat.mpr gi.1⟩
        obtain ⟨w, hw'⟩ : ∃ w : Nat, (tieA l (i : Int)).f1 = w := ⟨_, Int.eq_natCast_toNat.mpr (by omega)⟩
        have huw : otherN (tieA l (i : Int)) u = some w := other_has gi.2.1 (hasB_iff.mpr (Or.inl hu)) (hasB_iff.mpr (Or.inr hw')) (by omega)
        have hwn : (tieA l (i : Int)).f1 < n := hn _ (getD_mem z39 (by rw [Int.toNat_natCast]; omega))
        have hx := other_cross gi.1 gi.2.1 huw (s ^^^ r)
        have hy := other_cross gi.1 gi.2.1 huw s
        have hun : u < n := by omega
        have hwn' : w < n := by omega
        rw [← hta]
        by_cases e : i = m
        · subst e
          have eu : u = a := by omega
          have ew : w = b := by omega
          subst eu ew
          have r1 : r.testBit u = true := (hrb u hun).mpr reach_self
          have r2 : r.testBit w = false := by
            rw [← Bool.not_eq_true, hrb w hwn']; exact hr
          rw [← hta] at hw
          unfold wrB at hw ⊢
          rw [hy] at hw
          rw [hx, Nat.testBit_xor, Nat.testBit_xor, r1, r2]
          revert hw
          cases (tieA l (i : Int)).f2 <;> cases s.testBit u <;> cases s.testBit w <;> decide
        · have him : (i : Int) < (m : Int) := by omega
          have hci := hcj _ hini him
          have r12 : r.testBit u = r.testBit w := by
            rw [Bool.eq_iff_iff, hrb u hun, hrb w hwn']
            exact ⟨fun h => reach_step h hini him huw, fun h => reach_step h hini him (other_swap gi.1 gi.2.1 huw)⟩
          unfold wrB at hci ⊢
          rw [hy] at hci
          rw [hx, Nat.testBit_xor, Nat.testBit_xor, r12]
          revert hci
          cases (tieA l (i : Int)).f2 <;> cases s.testBit u <;> cases s.testBit w <;> cases r.testBit w <;> decide
end
end Go.Proofs.Ytaegldcifhgnmaa.B

/- What find's answers say of rings; what Sides says (plain). -/
namespace Go.Proofs.Ytaegldcifhgnmaa.B
open Go.Proofs.Ytaegldcifhgnmaa.A
open Go.RowKit Go.Proofs.YtaegldcifhgnmaaW.PrintWords Go.Proofs.YtaegldcifhgnmaaW.PrintMore
theorem firstN_hit_spec {α : Type} {F : Nat → Option α} : ∀ {k x}, firstN F k = some x → ∃ i, i < k ∧ F i = some x ∧ ∀ j, j < i → F j = none
  | 0, x, h => by cases h
  | k + 1, x, h => by
    rw [firstN] at h
    cases e : firstN F k with
    | some y =>
      rw [e] at h
      obtain ⟨i, hi, h2, h3⟩ := firstN_hit_spec e
      exact ⟨i, by omega, by rw [h2]; exact h, h3⟩
    | none =>
      rw [e] at h
      have hno : ∀ j, j < k → F j = none := by
        have gen : ∀ m, firstN F m = none → ∀ j, j < m → F j = none := by
          intro m
          induction m with
          | zero => intro _ j hj; omega
          | succ m ih =>
            intro hm j hj
            rw [firstN] at hm
            cases e2 : firstN F m with
            | some y => rw [e2] at hm; cases hm
            | none =>
              rw [e2] at hm
              by_cases hjm : j = m
              · rw [hjm]; exact hm
              · exact ih e2 j (by omega)
        exact gen k e
      exact ⟨k, by omega, h, hno⟩
theorem firstN_none_spec {α : Type} {F : Nat → Option α} : ∀ {m}, firstN F m = none → ∀ j, j < m → F j = none
  | 0, _, j, hj => by omega
  | m + 1, hm, j, hj => by
    rw [firstN] at hm
    cases e2 : firstN F m with
    | some y => rw [e2] at hm; cases hm
    | none =>
      rw [e2] at hm
      by_cases hjm : j = m
      · rw [hjm]; exact hm
      · exact firstN_none_spec e2 j (by omega)
section
variable {l : List S39}
theorem find_none {one : Bool} {p : Nat → Bool} (hp : ∀ g : Nat, p g = askB one (g : Int)) {n : Nat} (ht : tiesE n l = 0) (h : findF p l n = none) {x : List Int} (h3 : 3 ≤ x.length) (hr : Ringy l x) : askB one (feL l x) = false := by
  rw [find_short (tiesE_good ht) p one hp] at h
  have hn := ring_len (tiesE_good ht) (ties_lt ht) hr
  have h1 := firstN_none_spec h x.length (by omega)
  have h2 := sizeR_least (tiesE_good ht) one h3
  rw [h1] at h2
  have := h2 x
  rw [← Bool.not_eq_true]
  exact fun h4 => this ⟨rfl, hr, h4⟩
theorem find_some {one : Bool} {p : Nat → Bool} (hp : ∀ g : Nat, p g = askB one (g : Int)) {n : Nat} (ht : tiesE n l = 0) {r : List Int} (h : findF p l n = some r) : 3 ≤ r.length ∧ r.length ≤ n ∧ Ringy l r ∧ askB one (feL l r) = true ∧ ∀ x, 3 ≤ x.length → Ringy l x → askB one (feL l x) = true → r.length < x.length ∨ r.length = x.length ∧ lessB x r = false := by
  rw [find_short (tiesE_good ht) p one hp] at h
  obtain ⟨k, hk, h1, h2⟩ := firstN_hit_spec h
  have h3 : 3 ≤ k := by
    unfold sizeR at h1
    by_cases h3 : 3 ≤ k
    · exact h3
    · rw [if_neg h3] at h1; cases h1
  have hl := sizeR_least (tiesE_good ht) one h3
  rw [h1] at hl
  obtain ⟨⟨e1, e2, e3⟩, e4⟩ := hl
  refine ⟨by omega, by omega, e2, e3, fun x hx hr ha => ?_⟩
  by_cases hlt : r.length < x.length
  · exact Or.inl hlt
  · right
    have hge : k ≤ x.length := by
      rw [← Nat.not_lt]
      intro hlt2
      have h5 := h2 x.length hlt2
      have h6 := sizeR_least (tiesE_good ht) one hx
      rw [h5] at h6
      exact h6 x ⟨rfl, hr, ha⟩
    have he : x.length = k := by omega
    refine ⟨by omega, ?_⟩
    have := e4 x ⟨he, hr, ha⟩
    have hs := cmpL_swap r x
    exact decide_eq_false (by omega)
theorem odd_ask (g : Nat) : askB false (g : Int) = decide (g % 2 = 1) := by
  rw [← ask_odd]
  unfold oddB
  by_cases h : g % 2 = 1
  · rw [decide_eq_true h, h]; rfl
  · rw [decide_eq_false h, beq_eq_false_iff_ne]; exact h
/-- Harary: calm with a set, or an odd ring; never both. -/
theorem harary {n : Nat} (ht : tiesE n l = 0) : sidesN n l = none ↔ ∃ r, findF oddB l n = some r := by
  constructor
  · intro h
    cases e : findF oddB l n with
    | some r => exact ⟨r, rfl⟩
    | none =>
      exfalso
      obtain ⟨s, hs, hc⟩ := calm_or ht (fun x h3 _ hr => by
        have := find_none (one := false) ask_odd ht e h3 hr
        rw [odd_ask, decide_eq_false_iff_not] at this
        omega) l.length (Nat.le_refl _)
      have h1 := sidesN_none h s hs
      rw [wrongF_empty hc] at h1
      cases h1
  · rintro ⟨r, hr⟩
    obtain ⟨_, _, h1, h2, _⟩ := find_some (one := false) ask_odd ht hr
    cases e : sidesN n l with
    | none => rfl
    | some s =>
      exfalso
      have hs := sidesN_some e
      have hc : ∀ j, inR l j → wrB (tieA l j) s = false := fun j hj => wrongF_nil hs.2 (by have := hj.1; have := hj.2; omega)
      have := ring_even (tiesE_good ht) hc h1
      rw [odd_ask, decide_eq_true_iff] at h2
      omega
end
end Go.Proofs.Ytaegldcifhgnmaa.B

/- What switching changes and what it does not (plain). -/
namespace Go.Proofs.Ytaegldcifhgnmaa.B
open Go.Proofs.Ytaegldcifhgnmaa.A
open Go.RowKit Go.Proofs.YtaegldcifhgnmaaW.PrintWords Go.Proofs.YtaegldcifhgnmaaW.PrintMore
section
variable {l : List S39}
theorem sides_least {n : Nat} (l : List S39) : sidesN n l = none ↔ (leastK l (2 ^ n)).2.length ≠ 0 := by
  constructor
  · intro h
    have h1 := leastK_spec l (2 ^ n) (Nat.two_pow_pos n)
    have h2 := sidesN_none h _ h1.1
    rw [h1.2.1]
    intro e
    rw [List.isEmpty_iff_length_eq_zero.mpr e] at h2
    cases h2
  · intro h
    cases e : sidesN n l with
    | none => rfl
    | some s =>
      have h1 := sidesN_some e
      have h2 := leastK_le l (2 ^ n) s h1.1
      rw [List.isEmpty_iff_length_eq_zero.mp h1.2] at h2
      omega
end
end Go.Proofs.Ytaegldcifhgnmaa.B

/- FeudsFewest: rings apart and the fewest changes (plain). -/
namespace Go.Proofs.Ytaegldcifhgnmaa.B
open Go.Proofs.Ytaegldcifhgnmaa.A
open Go.RowKit Go.Proofs.YtaegldcifhgnmaaW.PrintWords Go.Proofs.YtaegldcifhgnmaaW.PrintMore
variable {l : List S39}
theorem WT_parx (hg : goodT l) {s : Nat} {fr : Nat} : ∀ (js : List Int), (∀ j ∈ js, wrB (tieA l j) s = false) → ∀ (at_ met : Nat), WT l fr at_ met js → (feL l js % 2 == 1) = (s.testBit at_ != s.testBit fr)
  | [], _, at_, _, h => by
    rw [WT] at h
    rw [h, bne_self_eq_false]; rfl
  | j :: js, hc, at_, met, ⟨hj, v, h1, _, h3⟩ => by
    have gj := tieA_good hg hj
    have ih := WT_parx hg js (fun i hi => hc i (List.mem_cons_of_mem j hi)) v _ h3
    have hcr := other_cross gj.1 gj.2.1 h1 s
    have hw := hc j List.mem_cons_self
    unfold wrB at hw
    rw [feL, par_add, par_fe, ih]
    rw [hcr] at hw
    revert hw
    cases (tieA l j).f2 <;> cases s.testBit at_ <;> cases s.testBit v <;> cases s.testBit fr <;> decide
/-- An odd ring has a wrong tie, whatever the set. -/
theorem odd_wrong (hg : goodT l) (s : Nat) {x : List Int} (h : OddRing l x) : ∃ i ∈ x, i ∈ wrongF l s := by
  by_cases hw : ∃ i ∈ x, wrB (tieA l i) s = true
  · obtain ⟨i, hi, h1⟩ := hw
    have hin := ringy_in h.2.1 i hi
    unfold inR at hin
    refine ⟨i, hi, ?_⟩
    unfold wrongF wrongK
    refine List.mem_map.mpr ⟨i.toNat, List.mem_filter.mpr ⟨List.mem_range.mpr (by omega), h1⟩, by omega⟩
  · exfalso
    obtain ⟨fr, _, hwt⟩ := h.2.1
    have h1 := WT_parx hg (s := s) x (fun j hj => by
      rw [← Bool.not_eq_true]
      exact fun e => hw ⟨j, hj, e⟩) _ _ hwt
    rw [bne_self_eq_false] at h1
    have h2 := h.2.2
    unfold oddB at h2
    rw [h2] at h1
    cases h1
theorem pd_len : ∀ (b : List (List Int)) (W : List Int), PD b → (∀ x ∈ b, ∃ i ∈ x, i ∈ W) → b.length ≤ W.length
  | [], _, _, _ => Nat.zero_le _
  | x :: b, W, hp, h => by
    obtain ⟨h1, h2⟩ := List.pairwise_cons.mp hp
    obtain ⟨i, hi, hW⟩ := h x List.mem_cons_self
    have ih := pd_len b (W.erase i) h2 (fun y hy => by
      obtain ⟨j, hj, hjW⟩ := h y (List.mem_cons_of_mem x hy)
      exact ⟨j, hj, (List.mem_erase_of_ne (fun e => h1 y hy i hi (by rw [← e]; exact hj))).mpr hjW⟩)
    rw [List.length_erase_of_mem hW] at ih
    have := List.length_pos_of_mem hW
    rw [List.length_cons]
    omega
theorem apart_few {n : Nat} (ht : tiesE n l = 0) (s : Nat) : (apartF l).length ≤ (wrongF l s).length := by
  obtain ⟨h1, _, h3⟩ := apart_good_list ht
  exact pd_len _ _ h3 fun x hx => odd_wrong (tiesE_good ht) s (h1 x hx)
theorem apart_none {n : Nat} (ht : tiesE n l = 0) : (apartF l).length = 0 ↔ (leastK l (2 ^ n)).2.length = 0 := by
  have hg := tiesE_good ht
  constructor
  · intro h
    have h0 : apartF l = [] := List.eq_nil_of_length_eq_zero h
    refine Classical.byContradiction fun hne => ?_
    obtain ⟨r, hr⟩ := (harary ht).mp ((sides_least l).mpr hne)
    obtain ⟨h3, _, hR, ho⟩ := find_some (one := false) ask_odd ht hr
    have hO : OddRing l r := ⟨h3, hR, by rw [ask_odd]; exact ho.1⟩
    obtain ⟨c, hc⟩ := (ringy_cyc hg h3).mp hR
    have hL := firstA_least hg (n + 1) (setI r)
    have hx : OddRing l r ∧ r.length < n + 1 ∧ setI r = setI r := ⟨hO, by have := cyc_len ht hc; omega, rfl⟩
    cases hf : firstA l (n + 1) (setI r) with
    | none => rw [hf] at hL; exact hL r hx
    | some b =>
      obtain ⟨hOb, hCb, _⟩ := first_canon ht hf
      have hm : b ∈ ascR l := (asc_mem ht b).mpr ⟨hOb, hCb⟩
      exact apart_some (fun e => by rw [e] at hm; cases hm) h0
  · intro h
    have h1 := apart_few ht (leastK l (2 ^ n)).1
    have h2 := (leastK_spec l (2 ^ n) (Nat.two_pow_pos n)).2.1
    rw [← h2, h] at h1
    omega
end Go.Proofs.Ytaegldcifhgnmaa.B

/- FeudsFewest: the changed ties (plain). -/
namespace Go.Proofs.Ytaegldcifhgnmaa.B
open Go.Proofs.Ytaegldcifhgnmaa.A
open Go.RowKit Go.Proofs.YtaegldcifhgnmaaW.PrintWords Go.Proofs.YtaegldcifhgnmaaW.PrintMore
def flipT (t : S39) : S39 := ⟨t.f0, t.f1, !t.f2⟩
/-- The ties with the first k of some changed. -/
def chK (l : List S39) (p : List Int) : Nat → List S39
  | 0 => l
  | k + 1 => (chK l p k).set (nx p k).toNat (flipT ((chK l p k).getD (nx p k).toNat z39))
variable {l : List S39}
theorem ch_len (p : List Int) : ∀ k, (chK l p k).length = l.length
  | 0 => rfl
  | k + 1 => by rw [chK, List.length_set, ch_len p k]
theorem ch_get {p : List Int} (hp : ∀ i ∈ p, inR l i) (hn : ∀ i j, i < p.length → j < p.length → nx p i = nx p j → i = j) : ∀ k, k ≤ p.length → ∀ i, i < l.length → (chK l p k).getD i z39 = if (p.take k).any (fun x => decide (x = (i : Int))) = true then flipT (l.getD i z39) else l.getD i z39
  | 0, _, i, _ => by rw [chK, List.take_zero]; rfl
  | k + 1, hk, i, hi => by
    have ih := ch_get hp hn k (by omega)
    have hin := hp _ (nx_mem hk)
    unfold inR at hin
    obtain ⟨a, ha⟩ := Int.eq_ofNat_of_zero_le hin.1
    have hal : a < l.length := by omega
    have hl := ch_len (l := l) p k
    rw [chK, take_succ_nx hk, List.any_append, ha, Int.toNat_natCast]
    by_cases e : a = i
    · subst e
      have hno : (p.take k).any (fun x => decide (x = (a : Int))) = false := by
        rw [← Bool.not_eq_true, List.any_eq_true]
        rintro ⟨x, hx, h1⟩
        obtain ⟨j, hj, h2⟩ := mem_nx hx
        rw [List.length_take] at hj
        rw [take_nx (by omega)] at h2
        have := hn j k (by omega) hk (by rw [h2, ha]; exact of_decide_eq_true h1)
        omega
      have h1 := ih a hal
      rw [hno, if_neg Bool.false_ne_true] at h1
      rw [hno, h1, List.getD_eq_getElem?_getD, List.getElem?_set_self (by omega)]
      simp
    · have h1 := ih i hi
      rw [List.getD_eq_getElem?_getD, List.getElem?_set_ne e, ← List.getD_eq_getElem?_getD, h1]
      have h2 : ([(a : Int)].any fun x => decide (x = (i : Int))) = false := by
        rw [List.any_cons, List.any_nil, Bool.or_false, decide_eq_false_iff_not]
        omega
      rw [h2, Bool.or_false]
theorem wrong_in (s : Nat) : ∀ i ∈ wrongF l s, inR l i := fun i hi => by
  unfold wrongF wrongK at hi
  obtain ⟨k, hk, rfl⟩ := List.mem_map.mp hi
  have := List.mem_range.mp (List.mem_filter.mp hk).1
  unfold inR
  omega
theorem nodup_nx {p : List Int} (h : p.Nodup) : ∀ i j, i < p.length → j < p.length → nx p i = nx p j → i = j := fun i j hi hj e => by
  unfold nx at e
  rw [List.getD_eq_getElem?_getD, List.getD_eq_getElem?_getD, List.getElem?_eq_getElem hi, List.getElem?_eq_getElem hj] at e
  exact (List.getElem_inj h).mp e
theorem wrong_nodup (s : Nat) : (wrongF l s).Nodup := by
  unfold wrongF wrongK
  refine List.pairwise_map.mpr ((List.nodup_range.filter _).imp fun h e => h (by omega))
theorem wrong_mem (s : Nat) {i : Nat} (hi : i < l.length) : (wrongF l s).any (fun x => decide (x = (i : Int))) = wrB (l.getD i z39) s := by
  rw [Bool.eq_iff_iff, List.any_eq_true]
  unfold wrongF wrongK
  constructor
  · rintro ⟨x, hx, e⟩
    obtain ⟨k, hk, rfl⟩ := List.mem_map.mp hx
    have e1 := of_decide_eq_true e
    have e2 : k = i := by omega
    rw [← e2]
    exact (List.mem_filter.mp hk).2
  · intro h
    exact ⟨(i : Int), List.mem_map.mpr ⟨i, List.mem_filter.mpr ⟨List.mem_range.mpr hi, h⟩, rfl⟩, by simp⟩
/-- All changed: every tie is as the set asks. -/
theorem ch_calm (s : Nat) {i : Nat} (hi : i < l.length) : wrB ((chK l (wrongF l s) (wrongF l s).length).getD i z39) s = false ∧ pairT ((chK l (wrongF l s) (wrongF l s).length).getD i z39) = pairT (l.getD i z39) := by
  rw [ch_get (wrong_in s) (nodup_nx (wrong_nodup s)) _ (Nat.le_refl _) i hi, List.take_length, wrong_mem s hi]
  by_cases h : wrB (l.getD i z39) s = true
  · rw [if_pos h]
    refine ⟨?_, rfl⟩
    unfold wrB at h ⊢
    have e : crossB (flipT (l.getD i z39)) s = crossB (l.getD i z39) s := rfl
    have e2 : (flipT (l.getD i z39)).f2 = !(l.getD i z39).f2 := rfl
    rw [e, e2]
    revert h
    cases crossB (l.getD i z39) s <;> cases (l.getD i z39).f2 <;> decide
  · rw [if_neg h]
    exact ⟨by simpa using h, rfl⟩
theorem ch_pairs (s : Nat) : (chK l (wrongF l s) (wrongF l s).length).map pairT = l.map pairT := by
  have hl := ch_len (l := l) (wrongF l s) (wrongF l s).length
  refine List.ext_getElem (by rw [List.length_map, List.length_map, hl]) fun i h1 h2 => ?_
  rw [List.length_map] at h1 h2
  rw [List.getElem_map, List.getElem_map]
  have := (ch_calm s h2).2
  rwa [List.getD_eq_getElem?_getD, List.getD_eq_getElem?_getD, List.getElem?_eq_getElem h1, List.getElem?_eq_getElem h2] at this
theorem ch_sides {n s : Nat} (ht : tiesE n l = 0) (hs : s < 2 ^ n) : (sidesF n (chK l (wrongF l s) (wrongF l s).length)).2 = 0 := by
  have hT : tiesE n (chK l (wrongF l s) (wrongF l s).length) = 0 := (tiesE_pairs (ch_pairs s)).trans ht
  have hl := ch_len (l := l) (wrongF l s) (wrongF l s).length
  have he : (wrongF (chK l (wrongF l s) (wrongF l s).length) s).isEmpty = true := wrongF_empty fun i hi => (ch_calm s (by omega)).1
  unfold sidesF
  rw [if_pos hT, Int.toNat_natCast]
  cases hsn : sidesN n (chK l (wrongF l s) (wrongF l s).length) with
  | none => rw [sidesN_none hsn s hs] at he; cases he
  | some u => rfl
end Go.Proofs.Ytaegldcifhgnmaa.B

/- FeudsFewest: where nothing is asked. -/
namespace Go.Proofs.Ytaegldcifhgnmaa.B
open Go.Proofs.Ytaegldcifhgnmaa.A
open Go.RowKit Go.Proofs.YtaegldcifhgnmaaW.PrintWords Go.Proofs.YtaegldcifhgnmaaW.PrintMore
set_option maxRecDepth 100000 in
set_option maxHeartbeats 800000 in
theorem fewest_many (n : Int) (A : Option Addr) (c : Nat) (l : List S39) (y : Int) (w : World) (hr : Kd.C k39 w A l.length l) (hc : l.length ≤ c) (hl : ¬ l.length ≤ 60) :
    Calls Try.prog 15 #[.int .i64 n, .slice A l.length c, .int .u8 y] w fun e w' => e = .returned (.bool true) ∧ Below w.heap.size w w' := by
  have HF := Aside0.mk (few_c A c l none 0 [] w hr hc ⟨rfl, Nat.zero_le _, fun h => absurd h (Nat.lt_irrefl _)⟩ (Nat.le_refl _) false (decide_eq_false fun h => hl h.1))
  clear hr hc hl
  go_enter Try.func15, Try.ntmps15
  go_upto_region 2 with (go_at_call 16; go_must (refine HF.out.mono ?_; rintro e w1 ⟨rfl, hb⟩; have HB1 := Aside0.mk hb; clear hb))
  go_wp2_with (go_at_call 17; go_must (refine (alive_calls _).mono ?_; rintro e w15 ⟨rfl, hb⟩; have HB2 := Aside0.mk (below_then HB1.out HB1.out.size hb); clear hb))
  go_ret
  exact ⟨rfl, HB2.out⟩
set_option maxRecDepth 100000 in
set_option maxHeartbeats 800000 in
theorem fewest_bad (n : Int) (A : Option Addr) (c : Nat) (l : List S39) (y : Int) (w : World) (hr : Kd.C k39 w A l.length l) (hc : l.length ≤ c) (hl : l.length ≤ 60) (E : Int) (hE : tiesE n l = E) (h0 : E ≠ 0) :
    Calls Try.prog 15 #[.int .i64 n, .slice A l.length c, .int .u8 y] w fun e w' => e = .returned (.bool true) ∧ Below w.heap.size w w' := by
  have HF := Aside0.mk (few_c A c l none 0 [] w hr hc ⟨rfl, Nat.zero_le _, fun h => absurd h (Nat.lt_irrefl _)⟩ (Nat.le_refl _) true (decide_eq_true ⟨hl, Nat.zero_le _⟩))
  have HR := Aside0.mk hr
  have HC := Aside0.mk hc
  have HE := Aside0.mk hE
  have hg := errne h0
  clear hr hc hE h0
  go_enter Try.func15, Try.ntmps15
  go_upto_region 2 with (first
    | (go_at_call 16; refine HF.out.mono ?_; rintro e w1 ⟨rfl, hb1⟩; have HB1 := Aside0.mk hb1; clear hb1)
    | (go_at_call 24; refine (Ties_c n A c l _ (Kd.C_below HR.out HB1.out) HC.out (by omega) E HE.out).mono ?_; rintro e w2 ⟨rfl, hb2⟩; have HB2 := Aside0.mk (below_then HB1.out HB1.out.size hb2); clear hb2))
  go_wp2_with (go_at_call 17; go_must (refine (alive_calls _).mono ?_; rintro e w15 ⟨rfl, hb⟩; have HB3 := Aside0.mk (below_then HB2.out HB2.out.size hb); clear hb))
  go_ret
  exact ⟨rfl, HB3.out⟩
end Go.Proofs.Ytaegldcifhgnmaa.B

/- FeudsFewest: what is asked of each ring (plain). -/
namespace Go.Proofs.Ytaegldcifhgnmaa.B
open Go.Proofs.Ytaegldcifhgnmaa.A
open Go.RowKit Go.Proofs.YtaegldcifhgnmaaW.PrintWords Go.Proofs.YtaegldcifhgnmaaW.PrintMore
/-- Which ties have been met: those of some lists and of the first m ties of one more. -/
def usedU (l : List S39) (b : List (List Int)) (x : List Int) (m : Nat) : List Bool := (List.range l.length).map fun i : Nat => b.any (fun y => y.any fun j => decide (j = (i : Int))) || (x.take m).any fun j => decide (j = (i : Int))
variable {l : List S39}
theorem used_len (b : List (List Int)) (x : List Int) (m : Nat) : (usedU l b x m).length = l.length := by unfold usedU; rw [List.length_map, List.length_range]
theorem used_get (b : List (List Int)) (x : List Int) (m : Nat) {i : Nat} (hi : i < l.length) : (usedU l b x m).getD i false = (b.any (fun y => y.any fun j => decide (j = (i : Int))) || (x.take m).any fun j => decide (j = (i : Int))) := by
  unfold usedU
  rw [List.getD_eq_getElem?_getD, List.getElem?_map, List.getElem?_range hi]; rfl
theorem used_start (x : List Int) : usedU l [] x 0 = List.replicate l.length false := by
  refine List.ext_getElem (by rw [used_len, List.length_replicate]) fun i h1 h2 => ?_
  unfold usedU
  simp
/-- A tie more. -/
theorem used_step (b : List (List Int)) {x : List Int} {m : Nat} (hm : m < x.length) {a : Nat} (ha : nx x m = (a : Int)) : usedU l b x (m + 1) = (usedU l b x m).set a true := by
  have hl := used_len (l := l) b x m
  refine List.ext_getElem? fun i => ?_
  rw [List.getElem?_set, hl]
  have hg : ∀ k i, (usedU l b x k)[i]? = if i < l.length then some (b.any (fun y => y.any fun j => decide (j = (i : Int))) || (x.take k).any fun j => decide (j = (i : Int))) else none := fun k i => by
    unfold usedU
    rw [List.getElem?_map]
    by_cases h : i < l.length
    · rw [if_pos h, List.getElem?_range h]; rfl
    · rw [if_neg h, List.getElem?_eq_none (by rw [List.length_range]; omega)]; rfl
  rw [hg, hg, take_succ_nx hm, List.any_append, ha]
  by_cases h : i < l.length
  · rw [if_pos h, if_pos h]
    by_cases e : a = i
    · rw [if_pos e]
      subst e
      rw [if_pos h]
      simp
    · rw [if_neg e]
      have h3 : ([(a : Int)].any fun j => decide (j = (i : Int))) = false := by
        rw [List.any_cons, List.any_nil, Bool.or_false, decide_eq_false_iff_not]; omega
      rw [h3, Bool.or_false]
  · rw [if_neg h, if_neg h]
    by_cases e : a = i
    · rw [if_pos e, if_neg (by omega)]
    · rw [if_neg e]
/-- A list more. -/
theorem used_next (b : List (List Int)) (x y : List Int) : usedU l b x x.length = usedU l (b ++ [x]) y 0 := by
  unfold usedU
  refine List.map_congr_left fun i _ => ?_
  rw [List.take_length, List.take_zero, List.any_append]
  simp
/-- The next tie has not been met: it is in none of the lists before, nor ahead of itself in its own. -/
theorem used_free {b : List (List Int)} {x : List Int} {m : Nat} (hm : m < x.length) {a : Nat} (hal : a < l.length) (ha : nx x m = (a : Int)) (hb : ∀ y ∈ b, ∀ i, i ∈ y → i ∉ x) (hn : ∀ i j, i < x.length → j < x.length → nx x i = nx x j → i = j) : (usedU l b x m).getD a false = false := by
  rw [used_get b x m hal, Bool.or_eq_false_iff]
  constructor
  · rw [← Bool.not_eq_true, List.any_eq_true]
    rintro ⟨y, hy, h⟩
    obtain ⟨j, hj, e⟩ := List.any_eq_true.mp h
    have e1 := of_decide_eq_true e
    exact hb y hy j hj (by rw [e1, ← ha]; exact nx_mem hm)
  · rw [← Bool.not_eq_true, List.any_eq_true]
    rintro ⟨j, hj, e⟩
    have e1 := of_decide_eq_true e
    obtain ⟨k, hk, e2⟩ := mem_nx hj
    rw [List.length_take] at hk
    rw [take_nx (by omega)] at e2
    have := hn k m (by omega) hm (by rw [e2, e1, ha])
    omega
end Go.Proofs.Ytaegldcifhgnmaa.B

/- What feuds' ring computes (plain). -/
namespace Go.Proofs.Ytaegldcifhgnmaa.B
open Go.Proofs.Ytaegldcifhgnmaa.A
open Go.RowKit Go.Proofs.YtaegldcifhgnmaaW.PrintWords Go.Proofs.YtaegldcifhgnmaaW.PrintMore
theorem has_eq (t : S39) (v : Nat) : feuds_has.f t.f0 t.f1 t.f2 (v : Int) = some (hasB t v) := by
  unfold feuds_has.f hasB
  by_cases h : t.f0 = (v : Int)
  · rw [if_pos h, beq_iff_eq.mpr h, Bool.true_or]
  · rw [if_neg h, beq_eq_false_iff_ne.mpr h, Bool.false_or]
theorem rdI (r : List Int) (i : Nat) : rd r (i : Int) = r.getD i 0 := by simp [rd]
theorem rdA (l : List S39) (i : Int) : rd_T39 l i = tieA l i := rfl
theorem tmod_nat (a b : Nat) : Int.tmod (a : Int) (b : Int) = ((a % b : Nat) : Int) := by
  rw [Int.tmod_eq_emod_of_nonneg (Int.natCast_nonneg _)]; rfl
section
variable {n : Int} {l : List S39} {r : List Int}
theorem ring_in (hr : r.length ≤ 1000) {k : Nat} (hk : k < r.length) (fe met : Int) (K : Nat) :
    feuds_net_ring.l0 (K + 1) r fe met r (r.length : Int) (k : Int) n l = feuds_net_ring.j1 K r fe met (r.getD k 0) (nextI r k) r (r.length : Int) (k : Int) (!decide (inR l (r.getD k 0) ∧ inR l (nextI r k) ∧ r.getD k 0 ≠ nextI r k)) n l := by
  have hmod : Int.tmod (wrap64 ((k : Int) + 1)) (r.length : Int) = (((k + 1) % r.length : Nat) : Int) := by
    rw [wrapS hk (by omega), tmod_nat]
  have hlt : (k + 1) % r.length < r.length := Nat.mod_lt _ (by omega)
  rw [feuds_net_ring.l0, if_pos (by omega), if_pos (by omega), if_pos (by omega), if_neg (by omega), hmod, if_pos (by omega), if_pos (by omega), rdI, rdI]
  rw [show r.getD ((k + 1) % r.length) 0 = nextI r k from rfl]
  generalize r.getD k 0 = i
  generalize nextI r k = nx
  by_cases h1 : mn i nx < 0
  · rw [if_pos h1]
    have : decide (inR l i ∧ inR l nx ∧ i ≠ nx) = false := by
      rw [decide_eq_false_iff_not]
      unfold inR mn at *
      split at h1 <;> omega
    rw [this]; rfl
  · rw [if_neg h1]
    by_cases h2 : mx i nx ≥ (l.length : Int)
    · rw [if_pos h2]
      have : decide (inR l i ∧ inR l nx ∧ i ≠ nx) = false := by
        rw [decide_eq_false_iff_not]
        unfold inR mx at *
        split at h2 <;> omega
      rw [this]; rfl
    · rw [if_neg h2]
      have : (i == nx) = !decide (inR l i ∧ inR l nx ∧ i ≠ nx) := by
        by_cases e : i = nx
        · rw [beq_iff_eq.mpr e, decide_eq_false_iff_not.mpr (fun h => h.2.2 e)]; rfl
        · rw [beq_eq_false_iff_ne.mpr e, decide_eq_true_iff.mpr]; rfl
          refine ⟨?_, ?_, e⟩ <;> (unfold inR mn mx at *; split at h1 <;> split at h2 <;> omega)
      rw [this]
theorem ring_l0 (hg : goodT l) (hr : r.length ≤ 1000) : ∀ (d k fe met : Nat), r.length - k = d → k ≤ r.length → fe ≤ k → met < 2 ^ 60 → Ev (fun K => feuds_net_ring.l0 K r (fe : Int) (met : Int) r (r.length : Int) (k : Int) n l) (ringN l r d k fe met) := by
  intro d
  induction d with
  | zero =>
    intro k fe met hd hk hf hm
    obtain rfl : k = r.length := by omega
    refine Ev.step (f := fun _ => some ((fe : Int), true)) (fun k => ?_) (Ev.now _)
    rw [feuds_net_ring.l0, if_neg (by omega)]
  | succ d ih =>
    intro k fe met hd hk hf hm
    have hlt : k < r.length := by omega
    refine Ev.step (fun K => ring_in hr hlt _ _ K) ?_
    rw [ringN]
    by_cases hin : inR l (r.getD k 0) ∧ inR l (nextI r k) ∧ r.getD k 0 ≠ nextI r k
    · rw [decide_eq_true_iff.mpr hin]
      have gi := tieA_good hg hin.1
      have h1 := hin.1.1
      have h2 := hin.1.2
      have h3 := hin.2.1.1
      have h4 := hin.2.1.2
      have hfe : Ev (fun K => feuds_net_ring.j2 K r ((fe + feA l r k : Nat) : Int) (met : Int) (r.getD k 0) (nextI r k) r (r.length : Int) (k : Int) n l) (match comB l (r.getD k 0) (nextI r k) with
    | none => ((0 : Int), false)
    | some c => if met.testBit c = true then (0, false) else ringN l r d (k + 1) (fe + feA l r k) (met ||| 2 ^ c)) := by
        have hfb : fe + feA l r k ≤ k + 1 := by
          have : feA l r k ≤ 1 := by unfold feA feT; split <;> omega
          omega
        -- a common drover
        have hc : ∀ c : Nat, c < 60 → Ev (fun K => if 0 ≤ (c : Int) then (if (Go.bits .and .i64 (shr .i64 (met : Int) (c : Int)) 1) = 1 then (some ((0 : Int), false)) else (feuds_net_ring.l0 K r ((fe + feA l r k : Nat) : Int) (Go.bits .or .i64 (met : Int) (shl .i64 1 (c : Int))) r (r.length : Int) (wrap64 ((k : Int) + 1)) n l)) else none) (if met.testBit c = true then (0, false) else ringN l r d (k + 1) (fe + feA l r k) (met ||| 2 ^ c)) := by
          intro c hc
          have h60 : 2 ^ c < 2 ^ 60 := Nat.pow_lt_pow_right (by decide) hc
          by_cases hb : met.testBit c = true
          · refine Ev.congr (f := fun _ => some ((0 : Int), false)) (fun K => ?_) (by rw [if_pos hb]; exact Ev.now _)
            rw [if_pos (by omega), bit_and met c (by omega) (lt62 hm (by decide)), if_pos hb, if_pos rfl]
          · rw [if_neg hb]
            refine Ev.congr (fun K => ?_) (ih (k + 1) (fe + feA l r k) (met ||| 2 ^ c) (by omega) (by omega) hfb (or_lt hm h60))
            rw [if_pos (by omega), bit_and met c (by omega) (lt62 hm (by decide)), if_neg hb, if_neg (by decide), shl_one (by omega), or64 _ _ (lt62 hm (by decide)) (lt62 h60 (by decide)), wrapS hlt (by omega)]
        have e0 : (tieA l (r.getD k 0)).f0 = ((tieA l (r.getD k 0)).f0.toNat : Int) := by omega
        have e1 : (tieA l (r.getD k 0)).f1 = ((tieA l (r.getD k 0)).f1.toNat : Int) := by omega
        unfold comB
        rw [if_pos hin]
        by_cases q0 : hasB (tieA l (nextI r k)) (tieA l (r.getD k 0)).f0.toNat = true
        · rw [if_pos q0]
          refine Ev.step (fun K => ?_) (hc _ (by omega))
          rw [feuds_net_ring.j2, if_pos h1, if_pos h2, if_pos h3, if_pos h4, rdA, rdA, e0, has_eq, q0]
          simp only [Option.bind_some, if_true, Int.toNat_natCast]
        · rw [if_neg q0]
          have q0' : hasB (tieA l (nextI r k)) (tieA l (r.getD k 0)).f0.toNat = false := by simpa using q0
          by_cases q1 : hasB (tieA l (nextI r k)) (tieA l (r.getD k 0)).f1.toNat = true
          · rw [if_pos q1]
            refine Ev.step (fun K => ?_) (hc _ (by omega))
            rw [feuds_net_ring.j2, if_pos h1, if_pos h2, if_pos h3, if_pos h4, rdA, rdA, e0, e1, has_eq, has_eq, q0', q1]
            simp only [Option.bind_some, if_true, Int.toNat_natCast, Bool.false_eq_true, if_false]
          · rw [if_neg q1]
            have q1' : hasB (tieA l (nextI r k)) (tieA l (r.getD k 0)).f1.toNat = false := by simpa using q1
            refine Ev.step (f := fun _ => some ((0 : Int), false)) (fun K => ?_) (Ev.now _)
            rw [feuds_net_ring.j2, if_pos h1, if_pos h2, if_pos h3, if_pos h4, rdA, rdA, e0, e1, has_eq, has_eq, q0', q1']
            simp only [Option.bind_some, Bool.false_eq_true, if_false]
      refine Ev.step (fun K => ?_) hfe
      rw [feuds_net_ring.j1, if_neg (by decide), if_pos h1, if_pos h2, rdA]
      unfold feA feT
      by_cases hb : (tieA l (r.getD k 0)).f2 = true
      · rw [if_pos hb, if_pos hb, wrap64_id (by omega) (by omega)]
        rfl
      · rw [if_neg hb, if_neg hb, Nat.add_zero]
    · rw [decide_eq_false_iff_not.mpr hin]
      have : comB l (r.getD k 0) (nextI r k) = none := by unfold comB; rw [if_neg hin]
      rw [this]
      refine Ev.step (f := fun _ => some ((0 : Int), false)) (fun K => ?_) (Ev.now _)
      rw [feuds_net_ring.j1, if_pos (by decide)]
theorem ring_ev (hg : goodT l) (hr : r.length ≤ 1000) : Ev (fun K => feuds_net_ring.f K n l r) (ringP l r) := by
  unfold ringP
  by_cases h : r.length < 3
  · rw [if_pos h]
    refine Ev.congr (f := fun _ => some ((0 : Int), false)) (fun K => ?_) (Ev.now _)
    unfold feuds_net_ring.f
    rw [if_pos (by omega)]
  · rw [if_neg h]
    refine Ev.congr (fun K => ?_) (ring_l0 (n := n) hg hr r.length 0 0 0 (by omega) (Nat.zero_le _) (Nat.le_refl _) (by decide))
    unfold feuds_net_ring.f
    rw [if_neg (by omega)]
    rfl
end
end Go.Proofs.Ytaegldcifhgnmaa.B

/- feuds.IsRing: what it computes. -/
namespace Go.Proofs.Ytaegldcifhgnmaa.B
open Go.Proofs.Ytaegldcifhgnmaa.A
open Go.RowKit Go.Proofs.YtaegldcifhgnmaaW.PrintWords Go.Proofs.YtaegldcifhgnmaaW.PrintMore
theorem ring_calls (n : Int) (A : Option Addr) (c : Nat) (l : List S39) (A1 : Option Addr) (c1 : Nat) (r : List Int) (w : World) (hr : Kd.C k39 w A l.length l) (hc : l.length ≤ c) (hr1 : Kd.C (Kd.int .i64) w A1 r.length r) (hc1 : r.length ≤ c1) (hg : goodT l) (hn : r.length ≤ 1000) (Z : Int × Bool) (hZ : ringP l r = Z) :
    Calls Try.prog 63 #[.agg #[.int .i64 n, .slice A l.length c], .slice A1 r.length c1] w fun e w' => e = .returned (.tuple #[.int .i64 Z.1, .bool Z.2]) ∧ Below w.heap.size w w' := by
  obtain ⟨k, hk⟩ := (ring_ev (n := n) hg hn).rounds
  rw [hZ] at hk
  exact feuds_net_ring.calls k n A c l A1 c1 r Z.1 Z.2 w hr hc hr1 hc1 hk

set_option maxRecDepth 100000 in
set_option maxHeartbeats 800000 in
theorem IsRing_err (n : Int) (A : Option Addr) (c : Nat) (l : List S39) (v : Value) (w : World) (hr : Kd.C k39 w A l.length l) (E : Int) (h : tiesE n l = E) (h0 : E ≠ 0) :
    Calls Try.prog 39 #[.int .i64 n, .slice A l.length c, v] w fun e w' => e = .returned (.tuple #[.int .i64 0, .bool false, .int .i64 E]) ∧ Below w.heap.size w w' := by
  have HR := Aside0.mk hr
  have HE := Aside0.mk h
  have hg := errne h0
  have H0 := Aside0.mk h0
  clear hr h h0
  go_enter Try.func39, Try.ntmps39
  go_wp2_with (go_at_call 46; refine (read_err HR.out HE.out H0.out).mono ?_; rintro e w' ⟨rfl, hb'⟩; have HB := Aside0.mk hb'; clear hb')
  go_ret3
  exact ⟨rfl, below_alloc HB.out _⟩

set_option maxRecDepth 100000 in
set_option maxHeartbeats 800000 in
theorem IsRing_good (n : Int) (A : Option Addr) (c : Nat) (l : List S39) (A1 : Option Addr) (c1 : Nat) (r : List Int) (w : World) (hr : Kd.C k39 w A l.length l) (hc : l.length ≤ c) (hr1 : Kd.C (Kd.int .i64) w A1 r.length r) (hc1 : r.length ≤ c1) (hn : r.length ≤ 1000) (h : tiesE n l = 0) (Z : Int × Bool) (hZ : ringP l r = Z) :
    Calls Try.prog 39 #[.int .i64 n, .slice A l.length c, .slice A1 r.length c1] w fun e w' => e = .returned (.tuple #[.int .i64 Z.1, .bool Z.2, .int .i64 0]) ∧ Below w.heap.size w w' := by
  have HR := Aside0.mk hr
  have HR1 := Aside0.mk hr1
  have HC := Aside0.mk hc
  have HC1 := Aside0.mk hc1
  have HE := Aside0.mk h
  have HG := Aside0.mk (tiesE_good h)
  have HN := Aside0.mk hn
  have HZ := Aside0.mk hZ
  obtain ⟨Z1, Z2⟩ := Z
  clear hr hr1 h hc hc1 hn hZ
  go_enter Try.func39, Try.ntmps39
  go_wp2_with (first | (go_at_call 46; refine (read_good HR.out HE.out).mono ?_; rintro e w1 ⟨rfl, hb1⟩; have HB1 := Aside0.mk (below_alloc hb1 (.cells #[.int .i64 n, .slice A l.length c] 59)); obtain ⟨r0, r1, _, _⟩ := cells2 (heap_alloc_new w1 (.cells #[.int .i64 n, .slice A l.length c] 59)); clear hb1) | (go_at_call 63; refine (ring_calls n A c l A1 c1 r _ (Kd.C_below HR.out HB1.out) HC.out (Kd.C_below HR1.out HB1.out) HC1.out HG.out HN.out (Z1, Z2) HZ.out).mono ?_; rintro e w2 ⟨rfl, hb2⟩; have HB2 := Aside0.mk (below_then HB1.out HB1.out.size hb2); clear hb2))
  go_ret3
  exact ⟨rfl, HB2.out⟩

def isRingE (n : Int) (l : List S39) (r : List Int) : Int × Bool × Int := if tiesE n l = 0 then ((ringP l r).1, (ringP l r).2, 0) else (0, false, tiesE n l)
def feuds_IsRing.f (a0 : Int) (l1 : List S39) (l2 : List Int) : Option (Int × Bool × Int) := if l2.length ≤ 1000 then some (isRingE a0 l1 l2) else none
theorem feuds_IsRing.calls (a0 : Int) (A1 : Option Addr) (c1 : Nat) (l1 : List S39) (A2 : Option Addr) (c2 : Nat) (l2 : List Int) (r1 : Int) (r2 : Bool) (r3 : Int) (w : World) (hr1 : Kd.C k39 w A1 l1.length l1) (hc1 : l1.length ≤ c1) (hr2 : Kd.C (Kd.int .i64) w A2 l2.length l2) (hc2 : l2.length ≤ c2) (h : feuds_IsRing.f a0 l1 l2 = some (r1, r2, r3)) :
    Calls Try.prog 39 #[.int .i64 a0, .slice A1 l1.length c1, .slice A2 l2.length c2] w fun e w' => e = .returned (.tuple #[.int .i64 r1, .bool r2, .int .i64 r3]) ∧ Below w.heap.size w w' := by
  unfold feuds_IsRing.f at h
  by_cases hn : l2.length ≤ 1000
  · rw [if_pos hn] at h
    have h := Option.some.inj h
    unfold isRingE at h
    by_cases h0 : tiesE a0 l1 = 0
    · rw [if_pos h0] at h
      cases h
      exact IsRing_good a0 A1 c1 l1 A2 c2 l2 w hr1 hc1 hr2 hc2 hn h0 _ rfl
    · rw [if_neg h0] at h
      cases h
      exact IsRing_err a0 A1 c1 l1 _ w hr1 _ rfl h0
  · rw [if_neg hn] at h; exact absurd h (by simp)
end Go.Proofs.Ytaegldcifhgnmaa.B

/- FeudsFewest: what is asked of the rings, row by row (plain). -/
namespace Go.Proofs.Ytaegldcifhgnmaa.B
open Go.Proofs.Ytaegldcifhgnmaa.A
open Go.RowKit Go.Proofs.YtaegldcifhgnmaaW.PrintWords Go.Proofs.YtaegldcifhgnmaaW.PrintMore
/-- What the law asks of the rings. -/
def ZOk (n : Nat) (l : List S39) (Z : List (List Int)) : Prop :=
  (∀ x ∈ Z, (∀ i ∈ x, inR l i) ∧ (∀ i j, i < x.length → j < x.length → nx x i = nx x j → i = j) ∧ x.length ≤ 8 ∧ ∃ f : Int, feuds_IsRing.f n l x = some (f, true, 0) ∧ (Int.tmod f 2 == 1) = true) ∧
  (∀ j, j + 1 < Z.length → lessB (Z.getD j []) (Z.getD (j + 1) []) = true) ∧ ∀ k, k < Z.length → ∀ y ∈ Z.take k, ∀ i, i ∈ y → i ∉ Z.getD k []
theorem row_z {Z : List (List Int)} {Q : List RowT} (hQ : (Q.map fun x => x.2) = Z) {k : Nat} (hk : k < Q.length) : Z.getD k [] = (Q.getD k default).2 := by
  subst hQ
  rw [List.getD_eq_getElem?_getD, List.getD_eq_getElem?_getD, List.getElem?_map, List.getElem?_eq_getElem hk]
  rfl
theorem zrow {n : Nat} {l : List S39} {Z : List (List Int)} {Q : List RowT} {W : World} (hZ : ZOk n l Z) (hQ : (Q.map fun x => x.2) = Z) (hO : ∀ x ∈ Q, RowOk W x) {k : Nat} (hk : k < Q.length) :
    RowOk W (Q.getD k default) ∧ (∀ i ∈ (Q.getD k default).2, inR l i) ∧ (∀ i j, i < (Q.getD k default).2.length → j < (Q.getD k default).2.length → nx (Q.getD k default).2 i = nx (Q.getD k default).2 j → i = j) ∧ (Q.getD k default).2.length ≤ 8 ∧ (∃ f : Int, feuds_IsRing.f n l (Q.getD k default).2 = some (f, true, 0) ∧ (Int.tmod f 2 == 1) = true) ∧ (∀ y ∈ Z.take k, ∀ i, i ∈ y → i ∉ (Q.getD k default).2) ∧ usedU l (Z.take k) [] 0 = usedU l (Z.take k) (Q.getD k default).2 0 ∧ usedU l (Z.take (k + 1)) [] 0 = usedU l (Z.take k) (Q.getD k default).2 (Q.getD k default).2.length ∧ ∀ j, k = j + 1 → RowOk W (Q.getD j default) ∧ lessB (Q.getD j default).2 (Q.getD k default).2 = true := by
  have hlen : Q.length = Z.length := by rw [← hQ, List.length_map]
  have hz := row_z hQ hk
  have hkz : k < Z.length := by omega
  obtain ⟨h1, h2, h3⟩ := hZ
  obtain ⟨p1, p2, p3, p4⟩ := h1 (Z.getD k []) (getD_mem [] hkz)
  have p5 := h3 k hkz
  rw [hz] at p1 p2 p3 p4 p5
  refine ⟨hO _ (getD_mem default hk), p1, p2, p3, p4, p5, ?_, ?_, fun j hj => ⟨hO _ (getD_mem default (by omega)), ?_⟩⟩
  · unfold usedU
    rw [List.take_zero, List.take_zero]
  · rw [used_next _ _ ([] : List Int), ← hz]
    congr 1
    rw [List.take_add_one, List.getElem?_eq_getElem hkz, List.getD_eq_getElem?_getD, List.getElem?_eq_getElem hkz]
    rfl
  · have h := h2 j (by omega)
    rw [row_z hQ (by omega), ← hj, hz] at h
    exact h
end Go.Proofs.Ytaegldcifhgnmaa.B

/- FeudsFewest: the walk, to the changed ties. -/
namespace Go.Proofs.Ytaegldcifhgnmaa.B
open Go.Proofs.Ytaegldcifhgnmaa.A
open Go.RowKit Go.Proofs.YtaegldcifhgnmaaW.PrintWords Go.Proofs.YtaegldcifhgnmaaW.PrintMore
set_option linter.unusedSimpArgs false
theorem info4F : (Try.prog.info? 4).map (fun i => (i.zero, i.size, i.bytes)) = some (some (.bool false), 1, 1) := by kernel_rfl
theorem set_drew (w : World) (p : Addr) (v : Value) : w.drew.setCell p v = (w.setCell p v).drew := by
  unfold World.setCell World.drew
  rfl
theorem same_c {A : Option Addr} {c : Nat} {a : List Int} {A2 : Option Addr} {c2 : Nat} {w : World} (h1 : Kd.C (Kd.int .i64) w A a.length a) (hc1 : a.length ≤ c) (h2 : Kd.C (Kd.int .i64) w A2 a.length a) (hc2 : a.length ≤ c2) (hl : a.length ≤ 1000) :
    Calls Try.prog 22 #[.slice A a.length c, .slice A2 a.length c2] w fun e w' => e = .returned (.bool true) ∧ Below w.heap.size w w' := by
  obtain ⟨k, hk⟩ := (same_ev (l := a) (l' := a) (by omega) rfl).rounds
  exact (drovewaylaw09_same.calls k A c a A2 c2 a true w h1 hc1 h2 hc2 hk).mono fun _ _ ⟨p, q⟩ => ⟨p, q.below⟩

theorem R_putB {W : World} {base g n cap : Nat} {ok : Nat → Prop} {xs : List Bool} (h : Kd.R Kd.bool 4 W base ok (.slice (some ⟨g, 0, none⟩) n cap) xs) (i : Nat) (x : Bool) : Kd.R Kd.bool 4 (W.setCell ⟨g, i, none⟩ (.bool x)) base ok (.slice (some ⟨g, 0, none⟩) n cap) (xs.set i x) := by
  have := (Kd.R_putg h (i : Int) x).1
  rwa [Int.toNat_natCast] at this

set_option maxRecDepth 100000 in
set_option maxHeartbeats 1600000 in
theorem fewest_walk (n : Nat) (h8 : n ≤ 8) (A : Option Addr) (c : Nat) (l : List S39) (y : Int) (s t : Nat) (p q : List Int) (w : World)
    (hr : Kd.C k39 w A l.length l) (hc : l.length ≤ c) (hl : l.length ≤ 60) (hE : tiesE n l = 0) (hy : 0 ≤ y ∧ y ≤ 255) (hs : Int.tmod y (2 ^ n) = (t : Int))
    (f6 : feuds_Least.f n l = some ((s : Int), p, 0)) (f7 : feuds_Wrong.f n l t = some (q, 0)) (f8 : feuds_Wrong.f n l s = some (p, 0)) (hpq : p.length ≤ q.length) (hmin : q.length = p.length → s ≤ t) (hpl : p.length ≤ 60) (hpi : ∀ i ∈ p, inR l i) (Z : List (List Int)) (E : Int) (H43 : ∀ w, Kd.C k39 w A l.length l → Calls Try.prog 43 #[.int .i64 n, .slice A l.length c] w (ApPost Z E w)) (hcase : (10 < l.length ∧ Z = [] ∧ E = 8) ∨ (l.length ≤ 10 ∧ E = 0 ∧ Z.length ≤ p.length ∧ (Z.length = 0 ↔ p.length = 0))) (hz : ZOk n l Z) (e1 : Int) (f9 : feuds_Sides.f n (chK l p p.length) = some (e1, 0)) :
    Calls Try.prog 15 #[.int .i64 n, .slice A l.length c, .int .u8 y] w fun e w' => e = .returned (.bool true) ∧ Below w.heap.size w w' := by
  have HF := Aside0.mk (few_c A c l none 0 [] w hr hc ⟨rfl, Nat.zero_le _, fun h => absurd h (Nat.lt_irrefl _)⟩ (Nat.le_refl _) true (decide_eq_true ⟨hl, Nat.zero_le _⟩))
  have HPI := Aside0.mk hpi
  have F9 := Aside0.mk f9
  have H43 := Aside0.mk H43
  have HCASE := Aside0.mk hcase
  have HZ := Aside0.mk hz
  clear f9 hcase hz
  clear hpi
  have HR := Aside0.mk hr
  have HC := Aside0.mk hc
  have HE := Aside0.mk hE
  have F6 := Aside0.mk f6
  have F7 := Aside0.mk f7
  have F8 := Aside0.mk f8
  obtain ⟨P, hP⟩ : ∃ P : Int, (2 : Int) ^ n = P := ⟨_, rfl⟩
  have hp1 : 1 ≤ P ∧ P ≤ 256 := by
    rw [← hP, pow_cast]
    have := pow8 h8
    have := Nat.two_pow_pos n
    omega
  have hwP : IntKind.i64.wrap (2 ^ n) = P := by rw [hP]; exact wrap64_nat _ (by omega) (by omega)
  have hwy : IntKind.i64.wrap y = y := wrap64_nat _ (by omega) (by omega)
  have hP0 : (P == 0) = false := by rw [beq_eq_false_iff_ne]; omega
  have hP1 : ¬ P = 0 := by omega
  rw [hP] at hs
  have hlz : ¬ (q.length : Int) < (p.length : Int) := by omega
  clear hr hc hE f6 f7 f8 hP
  go_enter Try.func15, Try.ntmps15
  go_upto_region 3 with (first
    | (go_at_call 16; refine HF.out.mono ?_; rintro e w1 ⟨rfl, hb1⟩; have HB1 := Aside0.mk hb1; clear hb1)
    | (go_at_call 24; refine (Ties_c n A c l _ (Kd.C_below HR.out HB1.out) HC.out (by omega) 0 HE.out).mono ?_; rintro e w2 ⟨rfl, hb2⟩; have HB2 := Aside0.mk (below_then HB1.out HB1.out.size hb2); clear hb2))
  go_upto_region 4 with (go_at_call 25; go_must (refine (feuds_Least.calls n A c l s p 0 _ (Kd.C_below HR.out HB2.out) HC.out F6.out).mono ?_; rintro e w3 ⟨v3, rfl, hR, hb⟩; obtain ⟨A3, c3, rfl, hc3, hC3⟩ := Kd.R_reads hR; have HC3 := Aside0.mk hC3; have HCC3 := Aside0.mk hc3; have HB3 := Aside0.mk (below_then HB2.out HB2.out.size hb); clear hR hb hC3 hc3))
  go_upto_region 5 with fail
  go_upto_region 6 with (go_at_call 36; go_must (refine (feuds_Wrong.calls n A c l t q 0 _ (Kd.C_below HR.out HB3.out) HC.out F7.out).mono ?_; rintro e w4 ⟨v4, rfl, hR, hb⟩; obtain ⟨A4, c4, rfl, hc4, _⟩ := Kd.R_reads hR; have HB4 := Aside0.mk (below_then HB3.out HB3.out.size hb); have HC3 := Aside0.mk (Kd.C_below HC3.out hb); clear hR hb hc4))
  go_upto_region 7 with (go_at_call 36; go_must (refine (feuds_Wrong.calls n A c l s p 0 _ (Kd.C_below HR.out HB4.out) HC.out F8.out).mono ?_; rintro e w5 ⟨v5, rfl, hR, hb⟩; obtain ⟨A5, c5, rfl, hc5, hC5⟩ := Kd.R_reads hR; have HC5 := Aside0.mk hC5; have HCC5 := Aside0.mk hc5; have HB5 := Aside0.mk (below_then HB4.out HB4.out.size hb); have HC3 := Aside0.mk (Kd.C_below HC3.out hb); clear hR hb hC5 hc5))
  have hsplit : (q.length = p.length ∧ s ≤ t) ∨ q.length ≠ p.length := by
    by_cases e : q.length = p.length
    · exact .inl ⟨e, hmin e⟩
    · exact .inr e
  clear hmin
  have HEQ : Aside0 (Calls Try.prog 22 #[.slice A5 p.length c5, .slice A3 p.length c3] w5 fun e w' => e = .returned (.bool true) ∧ Below w5.heap.size w5 w') := ⟨same_c HC5.out HCC5.out HC3.out HCC3.out (by omega)⟩
  rcases hsplit with ⟨hqp, hst⟩ | hqp
  · have hq1 : ((q.length : Int) == (p.length : Int)) = true := by rw [beq_iff_eq]; omega
    have hq2 : ¬ (t : Int) < (s : Int) := by omega
    go_upto_region 9 with (go_at_call 22; go_must (refine HEQ.out.mono ?_; rintro e w6 ⟨rfl, hb⟩; have HB6 := Aside0.mk (below_then HB5.out HB5.out.size hb); have HC3 := Aside0.mk (Kd.C_below HC3.out hb); clear hb))
    go_upto_region 10 with (first
      | ((with_reducible refine gate_dst (N := 99) rfl ?_); refine Kd.R_lit k39 w6.heap.size 39 ?hg (N := 99) ?hd (xs := ([] : List S39)) (inner := []) (ok := fun _ => True) (okp := fun _ => True) ?hr ?hp (fun _ hk => hk) trivial (Below.refl _ _) (Nat.le_refl _) (by simp) ?_; (case hd => rfl); (case hg => rfl); (case hr => first | (go_simp; done) | (go_simp; rfl)); (case hp => exact (Reps.none _ _)); intro v7 w7 ho7 hb7 _ _; have HO7 := Aside0.mk ho7; have HB7 := Aside0.mk hb7; clear ho7 hb7)
      | (at_builtin; go_must (refine Kd.R_append_rows k39 (Rr := k39.K w7) (w0 := w7) w6.heap.size rfl (.tmp 99) (.tmp 100) 22 39 _ _ rfl Try.underlying22 info39 rfl (by decide) (by decide) v7 [] l A l.length c (fun _ => True) (fun _ => False) rfl rfl HO7.out (Kd.C_below (Kd.C_below HR.out HB6.out) HB7.out) (fun _ _ h => h) (fun _ hk => hk.elim) (fun _ _ => trivial) (Below.refl _ _) HB7.out.size (by simp <;> omega) ?_; intro v8 w8 ho8 hb8 _ _; rw [List.nil_append] at ho8; obtain ⟨A8, c8, hv8, _, _⟩ := Kd.R_reads ho8; subst hv8; have HO8 := Aside0.mk ho8; have HB8 : Aside0 (Below w6.heap.size w6 w8) := ⟨HB7.out.trans hb8⟩; clear ho8 hb8)))
    go_wp2
    go_loopg [16] p.length (fun gg v16 wr => ∃ k : Nat, k ≤ p.length ∧ p.length - k ≤ gg ∧ v16 = .int .i64 k ∧ Aside0 (Kd.R k39 39 wr w6.heap.size (fun _ => True) (.slice A8 l.length c8) (chK l p k)) ∧ Aside0 (Below w6.heap.size w6 wr))
    case atStart => exact ⟨0, Nat.zero_le _, by omega, rfl, HO8, HB8⟩
    case round =>
      clear HO8 HB8 HO7 HB7
      obtain ⟨k, hk, hgg, rfl, HV, HBr⟩ := hrel
      by_cases hkl : k < p.length
      · have hklz : (k : Int) < (p.length : Int) := by omega
        obtain ⟨ad3, had3, hx0⟩ := Kd.at_int (Kd.C_below HC3.out HBr.out) (k : Int) (by omega) (by omega)
        subst had3
        rw [Int.toNat_natCast] at hx0
        have hin := HPI.out _ (nx_mem hkl)
        unfold inR at hin
        obtain ⟨a, ha⟩ := Int.eq_ofNat_of_zero_le hin.1
        have hrd : rd p (k : Int) = (a : Int) := by rw [← ha]; simp [rd, nx]
        rw [hrd] at hx0
        have hal : a < l.length := by omega
        have halz : ¬ (l.length : Int) ≤ (a : Int) := by omega
        have ha0 : ¬ (a : Int) < 0 := by omega
        have HA := Aside0.mk ha
        have hcl := ch_len (l := l) p k
        obtain ⟨g8, cap8, hv, _⟩ := Kd.R_form HV.out (by rw [hcl]; omega)
        injection hv with hv1 hv2 hv3
        subst hv1 hv3
        clear hv2
        obtain ⟨cs8, hb8⟩ := Kd.R_typed HV.out g8 rfl
        have hCC := (Kd.R_reads' HV.out).2.2
        rw [hcl] at hCC
        obtain ⟨ad8, had8, hy0, hy1, hy2⟩ := at_T39 hCC (a : Int) (by omega) (by omega)
        cases had8
        rw [Int.toNat_natCast] at hy0 hy1 hy2
        have hrd8 : rd_T39 (chK l p k) (a : Int) = (chK l p k).getD a z39 := by simp only [rd_T39, Int.toNat_natCast]
        rw [hrd8] at hy0 hy1 hy2
        have HCH : Aside0 (chK l p (k + 1) = (chK l p k).set a (flipT ((chK l p k).getD a z39))) := ⟨by rw [chK, HA.out, Int.toNat_natCast]⟩
        generalize hyy : (chK l p k).getD a z39 = y at hy0 hy1 hy2 HCH
        clear hin hrd hrd8 hcl hyy ha hCC
        rw [add_plain] at hy0 hy1 hy2
        have HSEG := Aside0.mk (seg_cells hy0 hy1 hy2)
        have hfz : wr.frozen? ⟨g8, a * 3 + 2, none⟩ = false := by simp [World.frozen?, hb8]
        obtain ⟨y0, y1, y2⟩ := y
        dsimp only at hy0 hy1 hy2
        clear hb8
        have hp3 : (ad3.add k).block < w6.heap.size := by
          obtain ⟨ad4, had4, hx4⟩ := Kd.at_int HC3.out (k : Int) (by omega) (by omega)
          cases had4
          rw [Int.toNat_natCast] at hx4
          exact World.block_lt_of_cell? w6 _ hx4
        have hg8 : w6.heap.size ≤ g8 := Kd.R_base HV.out g8 rfl
        have HX := Aside0.mk hx0
        obtain ⟨SS, hSS⟩ : ∃ SS : World → Prop, SS = (fun w' => w'.cell? (ad3.add k) = some (.int .i64 (a : Int))) := ⟨_, rfl⟩
        have HSS : Aside0 (∀ w', w'.heap[(ad3.add k).block]? = wr.heap[(ad3.add k).block]? → SS w') := ⟨fun w' h => by rw [hSS]; exact (World.cell?_of_block h).trans HX.out⟩
        have HSO : Aside0 (∀ w', SS w' → w'.cell? (ad3.add k) = some (.int .i64 (a : Int))) := ⟨fun w' h => by rw [hSS] at h; exact h⟩
        have hy2d : wr.drew.cell? ⟨g8, a * 3 + 2, none⟩ = some (.bool y2) := hy2
        have hfzd : wr.drew.frozen? ⟨g8, a * 3 + 2, none⟩ = false := hfz
        clear hSS hy0 hy1 hfz
        go_wp2
        clear hx0 hy2
        refine wp_region_noPanic ?_
        refine wp_region_held_drew (S := SS) (by kernel_rfl) (HSS.out _ rfl) (fun hHeld => ?_)
        refine H_on 0 122 ?va0 rfl rfl (by kernel_rfl) (by kernel_rfl) (by kernel_rfl) (by rfl) ?ha0 hHeld ?ra0
        case ha0 => (intro w hSw; have s0 := HSO.out w hSw; go_simp <;> with_reducible rfl)
        simp only [Act.put, List.setIfInBounds_toArray, List.set_cons_zero, List.set_cons_succ]
        refine H_on 1 123 ?va1 rfl rfl (by kernel_rfl) (by kernel_rfl) (by kernel_rfl) (by rfl) ?ha1 hHeld ?ra1
        case ha1 => (intro w hSw; have s0 := HSO.out w hSw; go_simp <;> with_reducible rfl)
        simp only [Act.put, List.setIfInBounds_toArray, List.set_cons_zero, List.set_cons_succ]
        refine H_on 2 124 ?va2 rfl rfl (by kernel_rfl) (by kernel_rfl) (by kernel_rfl) (by rfl) ?ha2 hHeld ?ra2
        case ha2 => (intro w hSw; have s0 := HSO.out w hSw; go_simp <;> with_reducible rfl)
        simp only [Act.put, List.setIfInBounds_toArray, List.set_cons_zero, List.set_cons_succ]
        refine H_on 3 125 ?va3 rfl rfl (by kernel_rfl) (by kernel_rfl) (by kernel_rfl) (by rfl) ?ha3 hHeld ?ra3
        case ha3 => (intro w hSw; have s0 := HSO.out w hSw; go_simp <;> with_reducible rfl)
        simp only [Act.put, List.setIfInBounds_toArray, List.set_cons_zero, List.set_cons_succ]
        refine H_on 4 126 ?va4 rfl rfl (by kernel_rfl) (by kernel_rfl) (by kernel_rfl) (by rfl) ?ha4 hHeld ?ra4
        case ha4 => (intro w hSw; have s0 := HSO.out w hSw; go_simp <;> with_reducible rfl)
        simp only [Act.put, List.setIfInBounds_toArray, List.set_cons_zero, List.set_cons_succ]
        refine H_on 5 127 ?va5 rfl rfl (by kernel_rfl) (by kernel_rfl) (by kernel_rfl) (by rfl) ?ha5 hHeld ?ra5
        case ha5 => (intro w hSw; have s0 := HSO.out w hSw; go_simp <;> with_reducible rfl)
        simp only [Act.put, List.setIfInBounds_toArray, List.set_cons_zero, List.set_cons_succ]
        refine H_on 6 128 ?va6 rfl rfl (by kernel_rfl) (by kernel_rfl) (by kernel_rfl) (by rfl) ?ha6 hHeld ?ra6
        case ha6 => (intro w hSw; have s0 := HSO.out w hSw; go_simp <;> with_reducible rfl)
        simp only [Act.put, List.setIfInBounds_toArray, List.set_cons_zero, List.set_cons_succ]
        refine H_on 7 129 ?va7 rfl rfl (by kernel_rfl) (by kernel_rfl) (by kernel_rfl) (by rfl) ?ha7 hHeld ?ra7
        case ha7 => (intro w hSw; have s0 := HSO.out w hSw; go_simp <;> with_reducible rfl)
        simp only [Act.put, List.setIfInBounds_toArray, List.set_cons_zero, List.set_cons_succ]
        refine H_on 8 130 ?va8 rfl rfl (by kernel_rfl) (by kernel_rfl) (by kernel_rfl) (by rfl) ?ha8 hHeld ?ra8
        case ha8 => (intro w hSw; have s0 := HSO.out w hSw; go_simp <;> with_reducible rfl)
        simp only [Act.put, List.setIfInBounds_toArray, List.set_cons_zero, List.set_cons_succ]
        refine H_on 9 131 ?va9 rfl rfl (by kernel_rfl) (by kernel_rfl) (by kernel_rfl) (by rfl) ?ha9 hHeld ?ra9
        case ha9 => (intro w hSw; have s0 := HSO.out w hSw; go_simp <;> with_reducible rfl)
        simp only [Act.put, List.setIfInBounds_toArray, List.set_cons_zero, List.set_cons_succ]
        refine H_on 10 132 ?va10 rfl rfl (by kernel_rfl) (by kernel_rfl) (by kernel_rfl) (by rfl) ?ha10 hHeld ?ra10
        case ha10 => (intro w hSw; have s0 := HSO.out w hSw; go_simp <;> with_reducible rfl)
        simp only [Act.put, List.setIfInBounds_toArray, List.set_cons_zero, List.set_cons_succ]
        refine H_on 11 133 ?va11 rfl rfl (by kernel_rfl) (by kernel_rfl) (by kernel_rfl) (by rfl) ?ha11 hHeld ?ra11
        case ha11 => (intro w hSw; have s0 := HSO.out w hSw; go_simp <;> with_reducible rfl)
        simp only [Act.put, List.setIfInBounds_toArray, List.set_cons_zero, List.set_cons_succ]
        refine wpAnyH_ready (rs := [12]) (by kernel_rfl) (by simp) ?_
        refine AllReadyH.cons rfl (fun K hK => ?_) AllReadyH.nil
        go_simp
        refine hK.out _ _ (HSS.out _ rfl) (fun hHeld => ?_)
        clear hK K
        try simp only [Act.put, List.setIfInBounds_toArray, List.set_cons_zero, List.set_cons_succ]
        refine H_on 13 135 ?va13 rfl rfl (by kernel_rfl) (by kernel_rfl) (by kernel_rfl) (by rfl) ?ha13 hHeld ?ra13
        case ha13 => (intro w hSw; have s0 := HSO.out w hSw; go_simp <;> with_reducible rfl)
        simp only [Act.put, List.setIfInBounds_toArray, List.set_cons_zero, List.set_cons_succ]
        refine H_on 14 136 ?va14 rfl rfl (by kernel_rfl) (by kernel_rfl) (by kernel_rfl) (by rfl) ?ha14 hHeld ?ra14
        case ha14 => (intro w hSw; have s0 := HSO.out w hSw; go_simp <;> with_reducible rfl)
        simp only [Act.put, List.setIfInBounds_toArray, List.set_cons_zero, List.set_cons_succ]
        refine H_on 15 137 ?va15 rfl rfl (by kernel_rfl) (by kernel_rfl) (by kernel_rfl) (by rfl) ?ha15 hHeld ?ra15
        case ha15 => (intro w hSw; have s0 := HSO.out w hSw; go_simp <;> with_reducible rfl)
        simp only [Act.put, List.setIfInBounds_toArray, List.set_cons_zero, List.set_cons_succ]
        refine wpAnyH_ready (rs := [16]) (by kernel_rfl) (by simp) ?_
        refine AllReadyH.cons rfl (fun K hK => ?_) AllReadyH.nil
        go_simp
        have hne : (ad3.add k).block ≠ g8 := by omega
        refine hK _ _ (HSS.out _ ((Below.heap_setCell _ _ _ _ hne).trans rfl)) (fun hHeld => ?_)
        clear hK K
        refine wpAnyH_done (by kernel_rfl) ?_ _
        refine NoPanic.normal ?_
        have HST : Aside0 (Kd.R k39 39 (wr.drew.setCell ⟨g8, a * 3 + 2, none⟩ (.bool (!y2))) w6.heap.size (fun _ => True) (.slice (some ⟨g8, 0, none⟩) l.length c8) (chK l p (k + 1)) ∧ Below w6.heap.size w6 (wr.drew.setCell ⟨g8, a * 3 + 2, none⟩ (.bool (!y2)))) := ⟨by
          obtain ⟨h1, h2⟩ := Kd.R_seg (okp := fun _ => False) (Kd.R_below HV.out (below_drew (Below.refl _ _))) (a : Int) (by omega) (by omega) (c := cellsT ⟨y0, y1, y2⟩) (seg := [.bool (!y2)]) (j := 2) rfl (fun j u h => HSEG.out j u h) (Nat.le_refl 3) (x' := flipT ⟨y0, y1, y2⟩) (k39_mkM _ _ _ ⟨y0, y1, !y2⟩) (fun _ hk => hk.elim)
          rw [Int.toNat_natCast] at h1 h2
          have e : wr.drew.setCells g8 (a * k39.sz + 2) [.bool (!y2)] = wr.drew.setCell ⟨g8, a * 3 + 2, none⟩ (.bool (!y2)) := rfl
          rw [e] at h1 h2
          refine ⟨by rw [HCH.out]; exact h1, ?_⟩
          exact (below_drew HBr.out).grown h2 HBr.out.size (fun j hj => by cases hj; exact hg8)⟩
        rw [set_drew] at HST
        generalize (wr.setCell ⟨g8, a * 3 + 2, none⟩ (.bool (!y2))).drew = w9 at HST ⊢
        clear hHeld HSS HSO hy2d hfzd
        go_wp2
        go_roundg (p.length - (k + 1))
        case measure => omega
        case rel => exact ⟨k + 1, by omega, by omega, by go_num, ⟨HST.out.1⟩, ⟨HST.out.2⟩⟩
      · have hklz : ¬ (k : Int) < (p.length : Int) := by omega
        obtain rfl : k = p.length := by omega
        obtain ⟨hv1, hv2, hv3⟩ := Kd.R_reads' HV.out
        have HSD : Aside0 (Calls Try.prog 18 #[.int .i64 n, .slice A8 l.length c8] wr fun e w' => e = .returned (.tuple #[.int .i64 e1, .int .i64 0]) ∧ Below wr.heap.size wr w') := ⟨by
          have := feuds_Sides.calls n A8 c8 (chK l p p.length) e1 0 wr hv3 (by rw [ch_len]; exact hv2) F9.out
          rwa [ch_len] at this⟩
        clear hv1 hv2 hv3
        go_upto_region 19 with (go_at_call 18; go_must (refine HSD.out.mono ?_; rintro e w10 ⟨rfl, hb⟩; have HB10 := Aside0.mk (below_then HBr.out HBr.out.size hb); clear hb))
        go_upto_region 20 with (go_at_call 43; go_must (refine (H43.out w10 (Kd.C_below (Kd.C_below HR.out HB6.out) HB10.out)).mono ?_; rintro e w11 ⟨v11, Q, rfl, hr11, hq11, ho11, hb11⟩; obtain ⟨A11, c11, hv11, _, hC11⟩ := Kd.R_reads hr11; subst hv11; have HQ := Aside0.mk hq11; have HO11 := Aside0.mk ho11; have HC11 := Aside0.mk hC11; have HB11 := Aside0.mk hb11; clear hr11 hq11 ho11 hb11 hC11))
        have HPQ : Aside0 (Q.length = Z.length) := ⟨by rw [← HQ.out, List.length_map]⟩
        rcases HCASE.out with ⟨h1, h2, h3⟩ | ⟨h1, h2, h3, h4⟩
        · have hz : Q.length = 0 := by rw [HPQ.out, h2]; rfl
          have hgt : (10 : Int) < (l.length : Int) := by omega
          have hq0 : Q = [] := List.eq_nil_of_length_eq_zero hz
          subst h3 hq0
          go_wp2_with (go_at_call 17; go_must (refine (alive_calls _).mono ?_; rintro e w15 ⟨rfl, hb⟩; have HB12 := Aside0.mk hb; clear hb))
          go_ret
          have hsz := HB6.out.size
          exact ⟨rfl, ((HB6.out.trans (HB10.out.mono hsz)).trans (HB11.out.mono (Nat.le_trans hsz HB10.out.size))).trans (HB12.out.mono (Nat.le_trans (Nat.le_trans hsz HB10.out.size) HB11.out.size))⟩
        · subst h2
          have hle : ¬ (10 : Int) < (l.length : Int) := by omega
          have hqz := HPQ.out
          have hlq : ¬ (p.length : Int) < (Q.length : Int) := by omega
          have HQL : Aside0 (Q.length ≤ 60) := ⟨by omega⟩
          have hbq : ∃ bq, ((Q.length : Int) == 0) = bq ∧ ((p.length : Int) == 0) = bq := by
            by_cases e : p.length = 0
            · exact ⟨true, by rw [beq_iff_eq]; have := h4.mpr e; omega, by rw [beq_iff_eq]; omega⟩
            · exact ⟨false, by rw [beq_eq_false_iff_ne]; intro h; exact e (h4.mp (by omega)), by rw [beq_eq_false_iff_ne]; omega⟩
          obtain ⟨bq, hb1, hb2⟩ := hbq
          clear hqz
          go_upto_region 24 with fail
          go_upto_region 25 with ((with_reducible refine gate_dst (N := 185) rfl ?_); refine Kd.R_make Kd.bool (w0 := w11) w11.heap.size 4 rfl (N := 185) rfl 41 _ _ rfl (l.length : Int) rfl rfl Try.underlying41 (.bool false) 1 info4F rfl (by decide) (by decide) false (ok := fun _ => True) (okp := fun _ => True) rfl (fun _ hk => hk) trivial (by omega) (by omega) (Below.refl _ _) (Nat.le_refl _) ?_; intro v12 w12 ho12 hb12 _ _; rw [Int.toNat_natCast] at ho12; obtain ⟨A12, c12, hv12, _, _⟩ := Kd.R_reads ho12; rw [List.length_replicate] at hv12; subst hv12; have HO12 := Aside0.mk ho12; have HB12 := Aside0.mk hb12; clear ho12 hb12)
          clear hb1 hb2 hlq hle
          go_wp2
          have hql := HQL.out
          go_loopg [22, 23, 24, 25, 26, 27] Q.length (fun gg v22 _ _ _ _ _ wr => ∃ k : Nat, k ≤ Q.length ∧ Q.length - k ≤ gg ∧ v22 = .int .i64 k ∧ Aside0 (Kd.R Kd.bool 4 wr w11.heap.size (fun _ => True) (.slice A12 l.length c12) (usedU l (Z.take k) [] 0)) ∧ Aside0 (Below w11.heap.size w11 wr))
          case atStart => exact ⟨0, Nat.zero_le _, by omega, rfl, ⟨by rw [List.take_zero, used_start]; exact HO12.out⟩, HB12⟩
          case round =>
            clear HO12 HB12
            obtain ⟨k, hk, hgg, rfl, HV, HBr⟩ := hrel
            by_cases hkl : k < Q.length
            · have hkz : (k : Int) < (Q.length : Int) := by omega
              obtain ⟨hk1, hin, hnd, hb8, ⟨fr, hfr, hod⟩, hdis, hst, hnx, hls⟩ := zrow HZ.out HQ.out HO11.out hkl
              obtain ⟨ad, had, hx0⟩ := ReadsOf.at_ (Kd.reads_of_C (d := default) HC11.out) (k : Int) (by omega) (by omega)
              subst had
              rw [Int.toNat_natCast] at hx0
              have hrd : rdOf default Q (k : Int) = Q.getD k default := by simp [rdOf]
              rw [hrd] at hx0
              have HLS : Aside0 (∀ j, k = j + 1 → ∃ (g2 rc2 : Nat) (b2 : List Int), w11.cell? (ad.add j) = some (.slice (some ⟨g2, 0, none⟩) b2.length rc2) ∧ RowOk w11 ((g2, rc2), b2) ∧ lessB b2 (Q.getD k default).2 = true) := ⟨fun j hj => by
                obtain ⟨h1, h2⟩ := hls j hj
                obtain ⟨ad', had', hx1⟩ := ReadsOf.at_ (Kd.reads_of_C (d := default) HC11.out) (j : Int) (by omega) (by omega)
                cases had'
                rw [Int.toNat_natCast, show rdOf default Q (j : Int) = Q.getD j default by simp [rdOf]] at hx1
                exact ⟨_, _, _, hx1, h1, h2⟩⟩
              clear hls hrd
              generalize Q.getD k default = y at hx0 hk1 hin hnd hb8 hfr hdis hst hnx HLS
              obtain ⟨⟨g, rc⟩, b⟩ := y
              dsimp only at hin hnd hb8 hfr hdis hst hnx HLS
              have hx1 : w11.cell? (ad.add k) = some (.slice (some ⟨g, 0, none⟩) b.length rc) := hx0
              have HX := Aside0.mk hx1
              have HLT := Aside0.mk (World.block_lt_of_cell? w11 _ hx1)
              have HXW : Aside0 (∀ w', Below w11.heap.size w11 w' → w'.cell? (ad.add k) = some (.slice (some ⟨g, 0, none⟩) b.length rc)) := ⟨fun w' h => (World.cell?_of_block (h.block _ HLT.out)).trans HX.out⟩
              have HRK := Aside0.mk hk1
              have HIN := Aside0.mk hin
              have HND := Aside0.mk hnd
              have HDIS := Aside0.mk hdis
              have HST := Aside0.mk hst
              have HNX := Aside0.mk hnx
              have HFR := Aside0.mk hfr
              have HB8 := Aside0.mk hb8
              have HWR : Aside0 (∀ w', Below w11.heap.size w11 w' → Kd.C k39 w' A l.length l) := ⟨fun w' h => Kd.C_below (Kd.C_below (Kd.C_below (Kd.C_below HR.out HB6.out) HB10.out) HB11.out) h⟩
              clear hx0 hx1 hk1 hin hnd hdis hst hnx hfr hb8
              have hx := HXW.out wr HBr.out
              go_upto_region 29 with (go_at_call 39; go_must (refine (feuds_IsRing.calls n A c l (some ⟨g, 0, none⟩) rc b fr true 0 wr (HWR.out _ HBr.out) HC.out (HRK.out.below HBr.out).2.2.2.2 HRK.out.2.2.1 HFR.out).mono ?_; rintro e w13 ⟨rfl, hb⟩; have HV := Aside0.mk (Kd.R_below HV.out hb); have HB13 := Aside0.mk (below_then HBr.out HBr.out.size hb); clear hb))
              clear hx
              replace hod : Int.tmod fr 2 = 1 := beq_iff_eq.mp hod
              rcases Nat.eq_zero_or_pos k with hk0 | hk0
              · have hkn : ((0 : Int) < (k : Int)) = False := eq_false (by omega)
                have hkm : (0 < k) = False := eq_false (by omega)
                clear hk0
                refine wp_region_noPanic ?_
                refine wp_region_held_drew (S := fun _ => True) (by kernel_rfl) trivial (fun hHeld => ?_)
                refine H_on 0 203 ?vpa0 rfl rfl (by kernel_rfl) (by kernel_rfl) (by kernel_rfl) (by rfl) ?hpa0 hHeld ?rpa0
                case hpa0 => (intro w hSw;  go_simp <;> with_reducible rfl)
                simp only [Act.put, List.setIfInBounds_toArray, List.set_cons_zero, List.set_cons_succ]
                refine H_on 1 204 ?vpa1 rfl rfl (by kernel_rfl) (by kernel_rfl) (by kernel_rfl) (by rfl) ?hpa1 hHeld ?rpa1
                case hpa1 => (intro w hSw;  go_simp <;> with_reducible rfl)
                simp only [Act.put, List.setIfInBounds_toArray, List.set_cons_zero, List.set_cons_succ]
                refine H_on 2 205 ?vpa2 rfl rfl (by kernel_rfl) (by kernel_rfl) (by kernel_rfl) (by rfl) ?hpa2 hHeld ?rpa2
                case hpa2 => (intro w hSw;  go_simp <;> with_reducible rfl)
                simp only [Act.put, List.setIfInBounds_toArray, List.set_cons_zero, List.set_cons_succ]
                refine H_on 3 206 ?vpa3 rfl rfl (by kernel_rfl) (by kernel_rfl) (by kernel_rfl) (by rfl) ?hpa3 hHeld ?rpa3
                case hpa3 => (intro w hSw;  go_simp <;> with_reducible rfl)
                simp only [Act.put, List.setIfInBounds_toArray, List.set_cons_zero, List.set_cons_succ]
                refine H_on 4 207 ?vpa4 rfl rfl (by kernel_rfl) (by kernel_rfl) (by kernel_rfl) (by rfl) ?hpa4 hHeld ?rpa4
                case hpa4 => (intro w hSw;  go_simp <;> with_reducible rfl)
                simp only [Act.put, List.setIfInBounds_toArray, List.set_cons_zero, List.set_cons_succ]
                refine H_on 5 208 ?vpa5 rfl rfl (by kernel_rfl) (by kernel_rfl) (by kernel_rfl) (by rfl) ?hpa5 hHeld ?rpa5
                case hpa5 => (intro w hSw;  go_simp <;> with_reducible rfl)
                simp only [Act.put, List.setIfInBounds_toArray, List.set_cons_zero, List.set_cons_succ]
                refine H_on 6 209 ?vpa6 rfl rfl (by kernel_rfl) (by kernel_rfl) (by kernel_rfl) (by rfl) ?hpa6 hHeld ?rpa6
                case hpa6 => (intro w hSw;  go_simp <;> with_reducible rfl)
                simp only [Act.put, List.setIfInBounds_toArray, List.set_cons_zero, List.set_cons_succ]
                refine H_on 7 210 ?vpa7 rfl rfl (by kernel_rfl) (by kernel_rfl) (by kernel_rfl) (by rfl) ?hpa7 hHeld ?rpa7
                case hpa7 => (intro w hSw;  go_simp <;> with_reducible rfl)
                simp only [Act.put, List.setIfInBounds_toArray, List.set_cons_zero, List.set_cons_succ]
                refine H_on 8 211 ?vpa8 rfl rfl (by kernel_rfl) (by kernel_rfl) (by kernel_rfl) (by rfl) ?hpa8 hHeld ?rpa8
                case hpa8 => (intro w hSw;  go_simp <;> with_reducible rfl)
                simp only [Act.put, List.setIfInBounds_toArray, List.set_cons_zero, List.set_cons_succ]
                refine H_on 9 212 ?vpa9 rfl rfl (by kernel_rfl) (by kernel_rfl) (by kernel_rfl) (by rfl) ?hpa9 hHeld ?rpa9
                case hpa9 => (intro w hSw;  go_simp <;> with_reducible rfl)
                simp only [Act.put, List.setIfInBounds_toArray, List.set_cons_zero, List.set_cons_succ]
                refine H_on 10 213 ?vpa10 rfl rfl (by kernel_rfl) (by kernel_rfl) (by kernel_rfl) (by rfl) ?hpa10 hHeld ?rpa10
                case hpa10 => (intro w hSw;  go_simp <;> with_reducible rfl)
                simp only [Act.put, List.setIfInBounds_toArray, List.set_cons_zero, List.set_cons_succ]
                refine H_on 11 214 ?vpa11 rfl rfl (by kernel_rfl) (by kernel_rfl) (by kernel_rfl) (by rfl) ?hpa11 hHeld ?rpa11
                case hpa11 => (intro w hSw;  go_simp <;> with_reducible rfl)
                simp only [Act.put, List.setIfInBounds_toArray, List.set_cons_zero, List.set_cons_succ]
                refine H_on 12 215 ?vpa12 rfl rfl (by kernel_rfl) (by kernel_rfl) (by kernel_rfl) (by rfl) ?hpa12 hHeld ?rpa12
                case hpa12 => (intro w hSw;  go_simp <;> with_reducible rfl)
                simp only [Act.put, List.setIfInBounds_toArray, List.set_cons_zero, List.set_cons_succ]
                refine H_on 13 216 ?vpa13 rfl rfl (by kernel_rfl) (by kernel_rfl) (by kernel_rfl) (by rfl) ?hpa13 hHeld ?rpa13
                case hpa13 => (intro w hSw;  go_simp <;> with_reducible rfl)
                simp only [Act.put, List.setIfInBounds_toArray, List.set_cons_zero, List.set_cons_succ]
                refine H_on 14 217 ?vpa14 rfl rfl (by kernel_rfl) (by kernel_rfl) (by kernel_rfl) (by rfl) ?hpa14 hHeld ?rpa14
                case hpa14 => (intro w hSw;  go_simp <;> with_reducible rfl)
                simp only [Act.put, List.setIfInBounds_toArray, List.set_cons_zero, List.set_cons_succ]
                refine H_off 15 218 rfl rfl (by kernel_rfl) (by kernel_rfl) (by kernel_rfl) (by rfl) hHeld ?_
                simp only [Act.put, List.setIfInBounds_toArray, List.set_cons_zero, List.set_cons_succ]
                refine H_off 16 219 rfl rfl (by kernel_rfl) (by kernel_rfl) (by kernel_rfl) (by rfl) hHeld ?_
                simp only [Act.put, List.setIfInBounds_toArray, List.set_cons_zero, List.set_cons_succ]
                refine H_off 17 220 rfl rfl (by kernel_rfl) (by kernel_rfl) (by kernel_rfl) (by rfl) hHeld ?_
                simp only [Act.put, List.setIfInBounds_toArray, List.set_cons_zero, List.set_cons_succ]
                refine H_off 18 221 rfl rfl (by kernel_rfl) (by kernel_rfl) (by kernel_rfl) (by rfl) hHeld ?_
                simp only [Act.put, List.setIfInBounds_toArray, List.set_cons_zero, List.set_cons_succ]
                refine H_off 19 222 rfl rfl (by kernel_rfl) (by kernel_rfl) (by kernel_rfl) (by rfl) hHeld ?_
                simp only [Act.put, List.setIfInBounds_toArray, List.set_cons_zero, List.set_cons_succ]
                refine H_off 20 223 rfl rfl (by kernel_rfl) (by kernel_rfl) (by kernel_rfl) (by rfl) hHeld ?_
                simp only [Act.put, List.setIfInBounds_toArray, List.set_cons_zero, List.set_cons_succ]
                refine H_off 21 224 rfl rfl (by kernel_rfl) (by kernel_rfl) (by kernel_rfl) (by rfl) hHeld ?_
                simp only [Act.put, List.setIfInBounds_toArray, List.set_cons_zero, List.set_cons_succ]
                refine H_off 22 225 rfl rfl (by kernel_rfl) (by kernel_rfl) (by kernel_rfl) (by rfl) hHeld ?_
                simp only [Act.put, List.setIfInBounds_toArray, List.set_cons_zero, List.set_cons_succ]
                refine H_off 23 226 rfl rfl (by kernel_rfl) (by kernel_rfl) (by kernel_rfl) (by rfl) hHeld ?_
                simp only [Act.put, List.setIfInBounds_toArray, List.set_cons_zero, List.set_cons_succ]
                refine H_off 24 227 rfl rfl (by kernel_rfl) (by kernel_rfl) (by kernel_rfl) (by rfl) hHeld ?_
                simp only [Act.put, List.setIfInBounds_toArray, List.set_cons_zero, List.set_cons_succ]
                refine H_off 25 228 rfl rfl (by kernel_rfl) (by kernel_rfl) (by kernel_rfl) (by rfl) hHeld ?_
                simp only [Act.put, List.setIfInBounds_toArray, List.set_cons_zero, List.set_cons_succ]
                refine H_on 26 229 ?vpa26 rfl rfl (by kernel_rfl) (by kernel_rfl) (by kernel_rfl) (by rfl) ?hpa26 hHeld ?rpa26
                case hpa26 => (intro w hSw;  go_simp <;> with_reducible rfl)
                simp only [Act.put, List.setIfInBounds_toArray, List.set_cons_zero, List.set_cons_succ]
                refine H_on 27 230 ?vpa27 rfl rfl (by kernel_rfl) (by kernel_rfl) (by kernel_rfl) (by rfl) ?hpa27 hHeld ?rpa27
                case hpa27 => (intro w hSw;  go_simp <;> with_reducible rfl)
                simp only [Act.put, List.setIfInBounds_toArray, List.set_cons_zero, List.set_cons_succ]
                refine wpAnyH_done (by kernel_rfl) ?_ _
                refine NoPanic.normal ?_
                clear hHeld
                have HV14 : Aside0 (Kd.R Kd.bool 4 w13.drew w11.heap.size (fun _ => True) (.slice A12 l.length c12) (usedU l (Z.take k) [] 0)) := ⟨Kd.R_below HV.out (below_drew (Below.refl _ _))⟩
                have HB14 : Aside0 (Below w11.heap.size w11 w13.drew) := ⟨below_drew HB13.out⟩
                generalize w13.drew = w14 at HV14 HB14 ⊢
                clear HV HB13 hkn hkm
                have hx := HXW.out _ HB14.out
                go_wp2
                clear hx
                go_loopg [26, 27] b.length (fun g3 v26 _ w2 => ∃ m : Nat, m ≤ b.length ∧ b.length - m ≤ g3 ∧ v26 = .int .i64 m ∧ Aside0 (Kd.R Kd.bool 4 w2 w11.heap.size (fun _ => True) (.slice A12 l.length c12) (usedU l (Z.take k) b m)) ∧ Aside0 (Below w11.heap.size w11 w2))
                case atStart => exact ⟨0, Nat.zero_le _, by omega, rfl, ⟨by rw [← HST.out]; exact HV14.out⟩, HB14⟩
                case round =>
                  clear HV14 HB14
                  obtain ⟨m, hm, hg3, rfl, HV2, HB2⟩ := hrel
                  have hx := HXW.out _ HB2.out
                  by_cases hml : m < b.length
                  · have hmz : (m : Int) < (b.length : Int) := by omega
                    obtain ⟨ad9, had9, hy0⟩ := Kd.at_int (HRK.out.below HB2.out).2.2.2.2 (m : Int) (by omega) (by omega)
                    cases had9
                    rw [Int.toNat_natCast] at hy0
                    have hin := HIN.out _ (nx_mem hml)
                    unfold inR at hin
                    obtain ⟨a, ha⟩ := Int.eq_ofNat_of_zero_le hin.1
                    have hrd : rd b (m : Int) = (a : Int) := by rw [← ha]; simp [rd, nx]
                    rw [hrd] at hy0
                    have hal : a < l.length := by omega
                    have halz : ¬ (l.length : Int) ≤ (a : Int) := by omega
                    have ha0 : ¬ (a : Int) < 0 := by omega
                    have HA := Aside0.mk ha
                    have hul := used_len (l := l) (Z.take k) b m
                    obtain ⟨g12, cap12, hv12, _⟩ := Kd.R_form HV2.out (by rw [hul]; omega)
                    injection hv12 with hv1 hv2 hv3
                    subst hv1 hv3
                    clear hv2
                    obtain ⟨cs12, hb12⟩ := Kd.R_typed HV2.out g12 rfl
                    have hCC := (Kd.R_reads' HV2.out).2.2
                    rw [hul] at hCC
                    obtain ⟨ad8, had8, hz0⟩ := Kd.at_bool hCC (a : Int) (by omega) (by omega)
                    cases had8
                    rw [Int.toNat_natCast] at hz0
                    have hrb : rdOf false (usedU l (Z.take k) b m) (a : Int) = false := by
                      have huf := used_free hml hal HA.out (fun y hy i hi => HDIS.out y hy i hi) HND.out
                      simp only [rdOf, Int.toNat_natCast]
                      exact huf
                    rw [hrb] at hz0
                    rw [add_plain] at hy0 hz0
                    clear hrb hrd hul hCC hin ha
                    have halq : (a : Int) < (l.length : Int) := by omega
                    have hg12 : w11.heap.size ≤ g12 := Kd.R_base HV2.out g12 rfl
                    have hfz : wr.frozen? ⟨g12, a, none⟩ = false := by simp [World.frozen?, hb12]
                    clear hb12
                    have HP := Aside0.mk (R_putB HV2.out a true)
                    go_wp2_with ((with_reducible refine gate_store (t := 4) (p := 263) rfl ?_); go_must (refine store_event (t := 4) (p := 263) (v := ?voa0) (w1 := wr.setCell ⟨g12, a, none⟩ (.bool true)) ?hg ?ho ?hn ?hr ?_; (case ho => rfl); (case hg => rfl); (case hn => rfl); (case hr => first | (go_simp; done) | (go_simp; rfl)); intro w15 hw; have HV15 : Aside0 (Kd.R Kd.bool 4 w15 w11.heap.size (fun _ => True) (.slice (some ⟨g12, 0, none⟩) l.length c12) (usedU l (Z.take k) b (m + 1))) := ⟨by rw [hw, used_step _ hml HA.out]; exact HP.out⟩; have HB15 : Aside0 (Below w11.heap.size w11 w15) := ⟨by rw [hw]; exact below_set HB2.out hg12⟩; clear hw))
                    have hb8 := HB8.out
                    go_roundg (b.length - (m + 1))
                    case measure => omega
                    case rel => exact ⟨m + 1, by omega, by omega, by rw [show wrap64 ((m : Int) + 1) = (m : Int) + 1 by unfold wrap64; omega, Int.natCast_add]; rfl, HV15, HB15⟩
                  · have hmz : ¬ (m : Int) < (b.length : Int) := by omega
                    obtain rfl : m = b.length := by omega
                    go_wp2
                    go_roundg (Q.length - (k + 1))
                    case measure => omega
                    case rel => exact ⟨k + 1, by omega, by omega, by go_num, ⟨by rw [HNX.out]; exact HV2.out⟩, HB2⟩
              · obtain ⟨j, hj⟩ : ∃ j, k = j + 1 := ⟨k - 1, by omega⟩
                obtain ⟨g2, rc2, b2, hx2, hk2, hl2⟩ := HLS.out j hj
                have hjk : IntKind.i64.wrap ((k : Int) - 1) = (j : Int) := by rw [show (k : Int) - 1 = (j : Int) by omega]; exact wrap64_nat _ (by omega) (by omega)
                have hjz : (j : Int) < (Q.length : Int) := by omega
                have hkn : ((0 : Int) < (k : Int)) = True := eq_true (by omega)
                have hkm : (0 < k) = True := eq_true (by omega)
                clear hk0
                have hwj : IntKind.i64.wrap (j : Int) = (j : Int) := wrap64_nat _ (by omega) (by omega)
                have HX2 := Aside0.mk hx2
                have HK2 := Aside0.mk hk2
                have HL2 := Aside0.mk hl2
                have HLT2 := Aside0.mk (World.block_lt_of_cell? w11 _ hx2)
                obtain ⟨SS, hSS⟩ : ∃ SS : World → Prop, SS = (fun w' => w'.cell? (ad.add k) = some (.slice (some ⟨g, 0, none⟩) b.length rc) ∧ w'.cell? (ad.add j) = some (.slice (some ⟨g2, 0, none⟩) b2.length rc2)) := ⟨_, rfl⟩
                have HSS : Aside0 (∀ w', Below w11.heap.size w11 w' → SS w') := ⟨fun w' h => by rw [hSS]; exact ⟨HXW.out _ h, (World.cell?_of_block (h.block _ HLT2.out)).trans HX2.out⟩⟩
                have HSO : Aside0 (∀ w', SS w' → w'.cell? (ad.add k) = some (.slice (some ⟨g, 0, none⟩) b.length rc) ∧ w'.cell? (ad.add j) = some (.slice (some ⟨g2, 0, none⟩) b2.length rc2)) := ⟨fun w' h => by rw [hSS] at h; exact h⟩
                clear hSS hx2 hk2 hl2 hj
                refine wp_region_noPanic ?_
                refine wp_region_held_drew (S := SS) (by kernel_rfl) (HSS.out _ (below_drew HB13.out)) (fun hHeld => ?_)
                refine H_on 0 203 ?vqa0 rfl rfl (by kernel_rfl) (by kernel_rfl) (by kernel_rfl) (by rfl) ?hqa0 hHeld ?rqa0
                case hqa0 => (intro w hSw; obtain ⟨s0, s1⟩ := HSO.out w hSw; go_simp <;> with_reducible rfl)
                simp only [Act.put, List.setIfInBounds_toArray, List.set_cons_zero, List.set_cons_succ]
                refine H_on 1 204 ?vqa1 rfl rfl (by kernel_rfl) (by kernel_rfl) (by kernel_rfl) (by rfl) ?hqa1 hHeld ?rqa1
                case hqa1 => (intro w hSw; obtain ⟨s0, s1⟩ := HSO.out w hSw; go_simp <;> with_reducible rfl)
                simp only [Act.put, List.setIfInBounds_toArray, List.set_cons_zero, List.set_cons_succ]
                refine H_on 2 205 ?vqa2 rfl rfl (by kernel_rfl) (by kernel_rfl) (by kernel_rfl) (by rfl) ?hqa2 hHeld ?rqa2
                case hqa2 => (intro w hSw; obtain ⟨s0, s1⟩ := HSO.out w hSw; go_simp <;> with_reducible rfl)
                simp only [Act.put, List.setIfInBounds_toArray, List.set_cons_zero, List.set_cons_succ]
                refine H_on 3 206 ?vqa3 rfl rfl (by kernel_rfl) (by kernel_rfl) (by kernel_rfl) (by rfl) ?hqa3 hHeld ?rqa3
                case hqa3 => (intro w hSw; obtain ⟨s0, s1⟩ := HSO.out w hSw; go_simp <;> with_reducible rfl)
                simp only [Act.put, List.setIfInBounds_toArray, List.set_cons_zero, List.set_cons_succ]
                refine H_on 4 207 ?vqa4 rfl rfl (by kernel_rfl) (by kernel_rfl) (by kernel_rfl) (by rfl) ?hqa4 hHeld ?rqa4
                case hqa4 => (intro w hSw; obtain ⟨s0, s1⟩ := HSO.out w hSw; go_simp <;> with_reducible rfl)
                simp only [Act.put, List.setIfInBounds_toArray, List.set_cons_zero, List.set_cons_succ]
                refine H_on 5 208 ?vqa5 rfl rfl (by kernel_rfl) (by kernel_rfl) (by kernel_rfl) (by rfl) ?hqa5 hHeld ?rqa5
                case hqa5 => (intro w hSw; obtain ⟨s0, s1⟩ := HSO.out w hSw; go_simp <;> with_reducible rfl)
                simp only [Act.put, List.setIfInBounds_toArray, List.set_cons_zero, List.set_cons_succ]
                refine H_on 6 209 ?vqa6 rfl rfl (by kernel_rfl) (by kernel_rfl) (by kernel_rfl) (by rfl) ?hqa6 hHeld ?rqa6
                case hqa6 => (intro w hSw; obtain ⟨s0, s1⟩ := HSO.out w hSw; go_simp <;> with_reducible rfl)
                simp only [Act.put, List.setIfInBounds_toArray, List.set_cons_zero, List.set_cons_succ]
                refine H_on 7 210 ?vqa7 rfl rfl (by kernel_rfl) (by kernel_rfl) (by kernel_rfl) (by rfl) ?hqa7 hHeld ?rqa7
                case hqa7 => (intro w hSw; obtain ⟨s0, s1⟩ := HSO.out w hSw; go_simp <;> with_reducible rfl)
                simp only [Act.put, List.setIfInBounds_toArray, List.set_cons_zero, List.set_cons_succ]
                refine H_on 8 211 ?vqa8 rfl rfl (by kernel_rfl) (by kernel_rfl) (by kernel_rfl) (by rfl) ?hqa8 hHeld ?rqa8
                case hqa8 => (intro w hSw; obtain ⟨s0, s1⟩ := HSO.out w hSw; go_simp <;> with_reducible rfl)
                simp only [Act.put, List.setIfInBounds_toArray, List.set_cons_zero, List.set_cons_succ]
                refine H_on 9 212 ?vqa9 rfl rfl (by kernel_rfl) (by kernel_rfl) (by kernel_rfl) (by rfl) ?hqa9 hHeld ?rqa9
                case hqa9 => (intro w hSw; obtain ⟨s0, s1⟩ := HSO.out w hSw; go_simp <;> with_reducible rfl)
                simp only [Act.put, List.setIfInBounds_toArray, List.set_cons_zero, List.set_cons_succ]
                refine H_on 10 213 ?vqa10 rfl rfl (by kernel_rfl) (by kernel_rfl) (by kernel_rfl) (by rfl) ?hqa10 hHeld ?rqa10
                case hqa10 => (intro w hSw; obtain ⟨s0, s1⟩ := HSO.out w hSw; go_simp <;> with_reducible rfl)
                simp only [Act.put, List.setIfInBounds_toArray, List.set_cons_zero, List.set_cons_succ]
                refine H_on 11 214 ?vqa11 rfl rfl (by kernel_rfl) (by kernel_rfl) (by kernel_rfl) (by rfl) ?hqa11 hHeld ?rqa11
                case hqa11 => (intro w hSw; obtain ⟨s0, s1⟩ := HSO.out w hSw; go_simp <;> with_reducible rfl)
                simp only [Act.put, List.setIfInBounds_toArray, List.set_cons_zero, List.set_cons_succ]
                refine H_on 12 215 ?vqa12 rfl rfl (by kernel_rfl) (by kernel_rfl) (by kernel_rfl) (by rfl) ?hqa12 hHeld ?rqa12
                case hqa12 => (intro w hSw; obtain ⟨s0, s1⟩ := HSO.out w hSw; go_simp <;> with_reducible rfl)
                simp only [Act.put, List.setIfInBounds_toArray, List.set_cons_zero, List.set_cons_succ]
                refine H_on 13 216 ?vqa13 rfl rfl (by kernel_rfl) (by kernel_rfl) (by kernel_rfl) (by rfl) ?hqa13 hHeld ?rqa13
                case hqa13 => (intro w hSw; obtain ⟨s0, s1⟩ := HSO.out w hSw; go_simp <;> with_reducible rfl)
                simp only [Act.put, List.setIfInBounds_toArray, List.set_cons_zero, List.set_cons_succ]
                refine H_on 14 217 ?vqa14 rfl rfl (by kernel_rfl) (by kernel_rfl) (by kernel_rfl) (by rfl) ?hqa14 hHeld ?rqa14
                case hqa14 => (intro w hSw; obtain ⟨s0, s1⟩ := HSO.out w hSw; go_simp <;> with_reducible rfl)
                simp only [Act.put, List.setIfInBounds_toArray, List.set_cons_zero, List.set_cons_succ]
                refine H_on 15 218 ?vqa15 rfl rfl (by kernel_rfl) (by kernel_rfl) (by kernel_rfl) (by rfl) ?hqa15 hHeld ?rqa15
                case hqa15 => (intro w hSw; obtain ⟨s0, s1⟩ := HSO.out w hSw; go_simp <;> with_reducible rfl)
                simp only [Act.put, List.setIfInBounds_toArray, List.set_cons_zero, List.set_cons_succ]
                refine H_on 16 219 ?vqa16 rfl rfl (by kernel_rfl) (by kernel_rfl) (by kernel_rfl) (by rfl) ?hqa16 hHeld ?rqa16
                case hqa16 => (intro w hSw; obtain ⟨s0, s1⟩ := HSO.out w hSw; go_simp <;> with_reducible rfl)
                simp only [Act.put, List.setIfInBounds_toArray, List.set_cons_zero, List.set_cons_succ]
                refine H_on 17 220 ?vqa17 rfl rfl (by kernel_rfl) (by kernel_rfl) (by kernel_rfl) (by rfl) ?hqa17 hHeld ?rqa17
                case hqa17 => (intro w hSw; obtain ⟨s0, s1⟩ := HSO.out w hSw; go_simp <;> with_reducible rfl)
                simp only [Act.put, List.setIfInBounds_toArray, List.set_cons_zero, List.set_cons_succ]
                refine H_on 18 221 ?vqa18 rfl rfl (by kernel_rfl) (by kernel_rfl) (by kernel_rfl) (by rfl) ?hqa18 hHeld ?rqa18
                case hqa18 => (intro w hSw; obtain ⟨s0, s1⟩ := HSO.out w hSw; go_simp <;> with_reducible rfl)
                simp only [Act.put, List.setIfInBounds_toArray, List.set_cons_zero, List.set_cons_succ]
                refine H_on 19 222 ?vqa19 rfl rfl (by kernel_rfl) (by kernel_rfl) (by kernel_rfl) (by rfl) ?hqa19 hHeld ?rqa19
                case hqa19 => (intro w hSw; obtain ⟨s0, s1⟩ := HSO.out w hSw; go_simp <;> with_reducible rfl)
                simp only [Act.put, List.setIfInBounds_toArray, List.set_cons_zero, List.set_cons_succ]
                refine H_on 20 223 ?vqa20 rfl rfl (by kernel_rfl) (by kernel_rfl) (by kernel_rfl) (by rfl) ?hqa20 hHeld ?rqa20
                case hqa20 => (intro w hSw; obtain ⟨s0, s1⟩ := HSO.out w hSw; go_simp <;> with_reducible rfl)
                simp only [Act.put, List.setIfInBounds_toArray, List.set_cons_zero, List.set_cons_succ]
                refine H_on 21 224 ?vqa21 rfl rfl (by kernel_rfl) (by kernel_rfl) (by kernel_rfl) (by rfl) ?hqa21 hHeld ?rqa21
                case hqa21 => (intro w hSw; obtain ⟨s0, s1⟩ := HSO.out w hSw; go_simp <;> with_reducible rfl)
                simp only [Act.put, List.setIfInBounds_toArray, List.set_cons_zero, List.set_cons_succ]
                refine H_on 22 225 ?vqa22 rfl rfl (by kernel_rfl) (by kernel_rfl) (by kernel_rfl) (by rfl) ?hqa22 hHeld ?rqa22
                case hqa22 => (intro w hSw; obtain ⟨s0, s1⟩ := HSO.out w hSw; go_simp <;> with_reducible rfl)
                simp only [Act.put, List.setIfInBounds_toArray, List.set_cons_zero, List.set_cons_succ]
                refine H_on 23 226 ?vqa23 rfl rfl (by kernel_rfl) (by kernel_rfl) (by kernel_rfl) (by rfl) ?hqa23 hHeld ?rqa23
                case hqa23 => (intro w hSw; obtain ⟨s0, s1⟩ := HSO.out w hSw; go_simp <;> with_reducible rfl)
                simp only [Act.put, List.setIfInBounds_toArray, List.set_cons_zero, List.set_cons_succ]
                refine wpAnyH_ready (rs := [24]) (by kernel_rfl) (by simp) ?_
                refine AllReadyH.cons rfl (fun K hK => ?_) AllReadyH.nil
                go_simp
                refine (less_rows (HK2.out.below (below_drew HB13.out)) (HRK.out.below (below_drew HB13.out)) true HL2.out).mono ?_
                rintro e w14 ⟨rfl, hb14⟩
                have HV14 : Aside0 (Kd.R Kd.bool 4 w14 w11.heap.size (fun _ => True) (.slice A12 l.length c12) (usedU l (Z.take k) [] 0)) := ⟨Kd.R_below (Kd.R_below HV.out (below_drew (Below.refl _ _))) hb14⟩
                have HB14 : Aside0 (Below w11.heap.size w11 w14) := ⟨below_then (below_drew HB13.out) (below_drew HB13.out).size hb14⟩
                clear hb14
                go_wp2_with fail
                refine hK.out _ _ (HSS.out _ HB14.out) (fun hHeld => ?_)
                clear hK K
                try simp only [Act.put, List.setIfInBounds_toArray, List.set_cons_zero, List.set_cons_succ]
                refine H_on 25 228 ?vqa25 rfl rfl (by kernel_rfl) (by kernel_rfl) (by kernel_rfl) (by rfl) ?hqa25 hHeld ?rqa25
                case hqa25 => (intro w hSw; obtain ⟨s0, s1⟩ := HSO.out w hSw; go_simp <;> with_reducible rfl)
                simp only [Act.put, List.setIfInBounds_toArray, List.set_cons_zero, List.set_cons_succ]
                refine H_on 26 229 ?vqa26 rfl rfl (by kernel_rfl) (by kernel_rfl) (by kernel_rfl) (by rfl) ?hqa26 hHeld ?rqa26
                case hqa26 => (intro w hSw; obtain ⟨s0, s1⟩ := HSO.out w hSw; go_simp <;> with_reducible rfl)
                simp only [Act.put, List.setIfInBounds_toArray, List.set_cons_zero, List.set_cons_succ]
                refine H_on 27 230 ?vqa27 rfl rfl (by kernel_rfl) (by kernel_rfl) (by kernel_rfl) (by rfl) ?hqa27 hHeld ?rqa27
                case hqa27 => (intro w hSw; obtain ⟨s0, s1⟩ := HSO.out w hSw; go_simp <;> with_reducible rfl)
                simp only [Act.put, List.setIfInBounds_toArray, List.set_cons_zero, List.set_cons_succ]
                refine wpAnyH_done (by kernel_rfl) ?_ _
                refine NoPanic.normal ?_
                clear hHeld HSS HSO HV HB13 hkn hkm hwj hjz hjk HX2 HK2 HL2 HLT2
                have hx := HXW.out _ HB14.out
                go_wp2
                clear hx
                go_loopg [26, 27] b.length (fun g3 v26 _ w2 => ∃ m : Nat, m ≤ b.length ∧ b.length - m ≤ g3 ∧ v26 = .int .i64 m ∧ Aside0 (Kd.R Kd.bool 4 w2 w11.heap.size (fun _ => True) (.slice A12 l.length c12) (usedU l (Z.take k) b m)) ∧ Aside0 (Below w11.heap.size w11 w2))
                case atStart => exact ⟨0, Nat.zero_le _, by omega, rfl, ⟨by rw [← HST.out]; exact HV14.out⟩, HB14⟩
                case round =>
                  clear HV14 HB14
                  obtain ⟨m, hm, hg3, rfl, HV2, HB2⟩ := hrel
                  have hx := HXW.out _ HB2.out
                  by_cases hml : m < b.length
                  · have hmz : (m : Int) < (b.length : Int) := by omega
                    obtain ⟨ad9, had9, hy0⟩ := Kd.at_int (HRK.out.below HB2.out).2.2.2.2 (m : Int) (by omega) (by omega)
                    cases had9
                    rw [Int.toNat_natCast] at hy0
                    have hin := HIN.out _ (nx_mem hml)
                    unfold inR at hin
                    obtain ⟨a, ha⟩ := Int.eq_ofNat_of_zero_le hin.1
                    have hrd : rd b (m : Int) = (a : Int) := by rw [← ha]; simp [rd, nx]
                    rw [hrd] at hy0
                    have hal : a < l.length := by omega
                    have halz : ¬ (l.length : Int) ≤ (a : Int) := by omega
                    have ha0 : ¬ (a : Int) < 0 := by omega
                    have HA := Aside0.mk ha
                    have hul := used_len (l := l) (Z.take k) b m
                    obtain ⟨g12, cap12, hv12, _⟩ := Kd.R_form HV2.out (by rw [hul]; omega)
                    injection hv12 with hv1 hv2 hv3
                    subst hv1 hv3
                    clear hv2
                    obtain ⟨cs12, hb12⟩ := Kd.R_typed HV2.out g12 rfl
                    have hCC := (Kd.R_reads' HV2.out).2.2
                    rw [hul] at hCC
                    obtain ⟨ad8, had8, hz0⟩ := Kd.at_bool hCC (a : Int) (by omega) (by omega)
                    cases had8
                    rw [Int.toNat_natCast] at hz0
                    have hrb : rdOf false (usedU l (Z.take k) b m) (a : Int) = false := by
                      have huf := used_free hml hal HA.out (fun y hy i hi => HDIS.out y hy i hi) HND.out
                      simp only [rdOf, Int.toNat_natCast]
                      exact huf
                    rw [hrb] at hz0
                    rw [add_plain] at hy0 hz0
                    clear hrb hrd hul hCC hin ha
                    have halq : (a : Int) < (l.length : Int) := by omega
                    have hg12 : w11.heap.size ≤ g12 := Kd.R_base HV2.out g12 rfl
                    have hfz : wr.frozen? ⟨g12, a, none⟩ = false := by simp [World.frozen?, hb12]
                    clear hb12
                    have HP := Aside0.mk (R_putB HV2.out a true)
                    go_wp2_with ((with_reducible refine gate_store (t := 4) (p := 263) rfl ?_); go_must (refine store_event (t := 4) (p := 263) (v := ?voa1) (w1 := wr.setCell ⟨g12, a, none⟩ (.bool true)) ?hg ?ho ?hn ?hr ?_; (case ho => rfl); (case hg => rfl); (case hn => rfl); (case hr => first | (go_simp; done) | (go_simp; rfl)); intro w15 hw; have HV15 : Aside0 (Kd.R Kd.bool 4 w15 w11.heap.size (fun _ => True) (.slice (some ⟨g12, 0, none⟩) l.length c12) (usedU l (Z.take k) b (m + 1))) := ⟨by rw [hw, used_step _ hml HA.out]; exact HP.out⟩; have HB15 : Aside0 (Below w11.heap.size w11 w15) := ⟨by rw [hw]; exact below_set HB2.out hg12⟩; clear hw))
                    have hb8 := HB8.out
                    go_roundg (b.length - (m + 1))
                    case measure => omega
                    case rel => exact ⟨m + 1, by omega, by omega, by rw [show wrap64 ((m : Int) + 1) = (m : Int) + 1 by unfold wrap64; omega, Int.natCast_add]; rfl, HV15, HB15⟩
                  · have hmz : ¬ (m : Int) < (b.length : Int) := by omega
                    obtain rfl : m = b.length := by omega
                    go_wp2
                    go_roundg (Q.length - (k + 1))
                    case measure => omega
                    case rel => exact ⟨k + 1, by omega, by omega, by go_num, ⟨by rw [HNX.out]; exact HV2.out⟩, HB2⟩
            · have hklz : ¬ (k : Int) < (Q.length : Int) := by omega
              go_wp2_with (go_at_call 17; go_must (refine (alive_calls _).mono ?_; rintro e w15 ⟨rfl, hb⟩; have HB13 := Aside0.mk (below_then HBr.out HBr.out.size hb); clear hb))
              go_ret
              have hsz := HB6.out.size
              exact ⟨rfl, ((HB6.out.trans (HB10.out.mono hsz)).trans (HB11.out.mono (Nat.le_trans hsz HB10.out.size))).trans (HB13.out.mono (Nat.le_trans (Nat.le_trans hsz HB10.out.size) HB11.out.size))⟩
  · have hq1 : ((q.length : Int) == (p.length : Int)) = false := by rw [beq_eq_false_iff_ne]; omega
    go_upto_region 9 with (go_at_call 22; go_must (refine HEQ.out.mono ?_; rintro e w6 ⟨rfl, hb⟩; have HB6 := Aside0.mk (below_then HB5.out HB5.out.size hb); have HC3 := Aside0.mk (Kd.C_below HC3.out hb); clear hb))
    go_upto_region 10 with (first
      | ((with_reducible refine gate_dst (N := 99) rfl ?_); refine Kd.R_lit k39 w6.heap.size 39 ?hg (N := 99) ?hd (xs := ([] : List S39)) (inner := []) (ok := fun _ => True) (okp := fun _ => True) ?hr ?hp (fun _ hk => hk) trivial (Below.refl _ _) (Nat.le_refl _) (by simp) ?_; (case hd => rfl); (case hg => rfl); (case hr => first | (go_simp; done) | (go_simp; rfl)); (case hp => exact (Reps.none _ _)); intro v7 w7 ho7 hb7 _ _; have HO7 := Aside0.mk ho7; have HB7 := Aside0.mk hb7; clear ho7 hb7)
      | (at_builtin; go_must (refine Kd.R_append_rows k39 (Rr := k39.K w7) (w0 := w7) w6.heap.size rfl (.tmp 99) (.tmp 100) 22 39 _ _ rfl Try.underlying22 info39 rfl (by decide) (by decide) v7 [] l A l.length c (fun _ => True) (fun _ => False) rfl rfl HO7.out (Kd.C_below (Kd.C_below HR.out HB6.out) HB7.out) (fun _ _ h => h) (fun _ hk => hk.elim) (fun _ _ => trivial) (Below.refl _ _) HB7.out.size (by simp <;> omega) ?_; intro v8 w8 ho8 hb8 _ _; rw [List.nil_append] at ho8; obtain ⟨A8, c8, hv8, _, _⟩ := Kd.R_reads ho8; subst hv8; have HO8 := Aside0.mk ho8; have HB8 : Aside0 (Below w6.heap.size w6 w8) := ⟨HB7.out.trans hb8⟩; clear ho8 hb8)))
    go_wp2
    go_loopg [16] p.length (fun gg v16 wr => ∃ k : Nat, k ≤ p.length ∧ p.length - k ≤ gg ∧ v16 = .int .i64 k ∧ Aside0 (Kd.R k39 39 wr w6.heap.size (fun _ => True) (.slice A8 l.length c8) (chK l p k)) ∧ Aside0 (Below w6.heap.size w6 wr))
    case atStart => exact ⟨0, Nat.zero_le _, by omega, rfl, HO8, HB8⟩
    case round =>
      clear HO8 HB8 HO7 HB7
      obtain ⟨k, hk, hgg, rfl, HV, HBr⟩ := hrel
      by_cases hkl : k < p.length
      · have hklz : (k : Int) < (p.length : Int) := by omega
        obtain ⟨ad3, had3, hx0⟩ := Kd.at_int (Kd.C_below HC3.out HBr.out) (k : Int) (by omega) (by omega)
        subst had3
        rw [Int.toNat_natCast] at hx0
        have hin := HPI.out _ (nx_mem hkl)
        unfold inR at hin
        obtain ⟨a, ha⟩ := Int.eq_ofNat_of_zero_le hin.1
        have hrd : rd p (k : Int) = (a : Int) := by rw [← ha]; simp [rd, nx]
        rw [hrd] at hx0
        have hal : a < l.length := by omega
        have halz : ¬ (l.length : Int) ≤ (a : Int) := by omega
        have ha0 : ¬ (a : Int) < 0 := by omega
        have HA := Aside0.mk ha
        have hcl := ch_len (l := l) p k
        obtain ⟨g8, cap8, hv, _⟩ := Kd.R_form HV.out (by rw [hcl]; omega)
        injection hv with hv1 hv2 hv3
        subst hv1 hv3
        clear hv2
        obtain ⟨cs8, hb8⟩ := Kd.R_typed HV.out g8 rfl
        have hCC := (Kd.R_reads' HV.out).2.2
        rw [hcl] at hCC
        obtain ⟨ad8, had8, hy0, hy1, hy2⟩ := at_T39 hCC (a : Int) (by omega) (by omega)
        cases had8
        rw [Int.toNat_natCast] at hy0 hy1 hy2
        have hrd8 : rd_T39 (chK l p k) (a : Int) = (chK l p k).getD a z39 := by simp only [rd_T39, Int.toNat_natCast]
        rw [hrd8] at hy0 hy1 hy2
        have HCH : Aside0 (chK l p (k + 1) = (chK l p k).set a (flipT ((chK l p k).getD a z39))) := ⟨by rw [chK, HA.out, Int.toNat_natCast]⟩
        generalize hyy : (chK l p k).getD a z39 = y at hy0 hy1 hy2 HCH
        clear hin hrd hrd8 hcl hyy ha hCC
        rw [add_plain] at hy0 hy1 hy2
        have HSEG := Aside0.mk (seg_cells hy0 hy1 hy2)
        have hfz : wr.frozen? ⟨g8, a * 3 + 2, none⟩ = false := by simp [World.frozen?, hb8]
        obtain ⟨y0, y1, y2⟩ := y
        dsimp only at hy0 hy1 hy2
        clear hb8
        have hp3 : (ad3.add k).block < w6.heap.size := by
          obtain ⟨ad4, had4, hx4⟩ := Kd.at_int HC3.out (k : Int) (by omega) (by omega)
          cases had4
          rw [Int.toNat_natCast] at hx4
          exact World.block_lt_of_cell? w6 _ hx4
        have hg8 : w6.heap.size ≤ g8 := Kd.R_base HV.out g8 rfl
        have HX := Aside0.mk hx0
        obtain ⟨SS, hSS⟩ : ∃ SS : World → Prop, SS = (fun w' => w'.cell? (ad3.add k) = some (.int .i64 (a : Int))) := ⟨_, rfl⟩
        have HSS : Aside0 (∀ w', w'.heap[(ad3.add k).block]? = wr.heap[(ad3.add k).block]? → SS w') := ⟨fun w' h => by rw [hSS]; exact (World.cell?_of_block h).trans HX.out⟩
        have HSO : Aside0 (∀ w', SS w' → w'.cell? (ad3.add k) = some (.int .i64 (a : Int))) := ⟨fun w' h => by rw [hSS] at h; exact h⟩
        have hy2d : wr.drew.cell? ⟨g8, a * 3 + 2, none⟩ = some (.bool y2) := hy2
        have hfzd : wr.drew.frozen? ⟨g8, a * 3 + 2, none⟩ = false := hfz
        clear hSS hy0 hy1 hfz
        go_wp2
        clear hx0 hy2
        refine wp_region_noPanic ?_
        refine wp_region_held_drew (S := SS) (by kernel_rfl) (HSS.out _ rfl) (fun hHeld => ?_)
        refine H_on 0 122 ?vb0 rfl rfl (by kernel_rfl) (by kernel_rfl) (by kernel_rfl) (by rfl) ?hb0 hHeld ?rb0
        case hb0 => (intro w hSw; have s0 := HSO.out w hSw; go_simp <;> with_reducible rfl)
        simp only [Act.put, List.setIfInBounds_toArray, List.set_cons_zero, List.set_cons_succ]
        refine H_on 1 123 ?vb1 rfl rfl (by kernel_rfl) (by kernel_rfl) (by kernel_rfl) (by rfl) ?hb1 hHeld ?rb1
        case hb1 => (intro w hSw; have s0 := HSO.out w hSw; go_simp <;> with_reducible rfl)
        simp only [Act.put, List.setIfInBounds_toArray, List.set_cons_zero, List.set_cons_succ]
        refine H_on 2 124 ?vb2 rfl rfl (by kernel_rfl) (by kernel_rfl) (by kernel_rfl) (by rfl) ?hb2 hHeld ?rb2
        case hb2 => (intro w hSw; have s0 := HSO.out w hSw; go_simp <;> with_reducible rfl)
        simp only [Act.put, List.setIfInBounds_toArray, List.set_cons_zero, List.set_cons_succ]
        refine H_on 3 125 ?vb3 rfl rfl (by kernel_rfl) (by kernel_rfl) (by kernel_rfl) (by rfl) ?hb3 hHeld ?rb3
        case hb3 => (intro w hSw; have s0 := HSO.out w hSw; go_simp <;> with_reducible rfl)
        simp only [Act.put, List.setIfInBounds_toArray, List.set_cons_zero, List.set_cons_succ]
        refine H_on 4 126 ?vb4 rfl rfl (by kernel_rfl) (by kernel_rfl) (by kernel_rfl) (by rfl) ?hb4 hHeld ?rb4
        case hb4 => (intro w hSw; have s0 := HSO.out w hSw; go_simp <;> with_reducible rfl)
        simp only [Act.put, List.setIfInBounds_toArray, List.set_cons_zero, List.set_cons_succ]
        refine H_on 5 127 ?vb5 rfl rfl (by kernel_rfl) (by kernel_rfl) (by kernel_rfl) (by rfl) ?hb5 hHeld ?rb5
        case hb5 => (intro w hSw; have s0 := HSO.out w hSw; go_simp <;> with_reducible rfl)
        simp only [Act.put, List.setIfInBounds_toArray, List.set_cons_zero, List.set_cons_succ]
        refine H_on 6 128 ?vb6 rfl rfl (by kernel_rfl) (by kernel_rfl) (by kernel_rfl) (by rfl) ?hb6 hHeld ?rb6
        case hb6 => (intro w hSw; have s0 := HSO.out w hSw; go_simp <;> with_reducible rfl)
        simp only [Act.put, List.setIfInBounds_toArray, List.set_cons_zero, List.set_cons_succ]
        refine H_on 7 129 ?vb7 rfl rfl (by kernel_rfl) (by kernel_rfl) (by kernel_rfl) (by rfl) ?hb7 hHeld ?rb7
        case hb7 => (intro w hSw; have s0 := HSO.out w hSw; go_simp <;> with_reducible rfl)
        simp only [Act.put, List.setIfInBounds_toArray, List.set_cons_zero, List.set_cons_succ]
        refine H_on 8 130 ?vb8 rfl rfl (by kernel_rfl) (by kernel_rfl) (by kernel_rfl) (by rfl) ?hb8 hHeld ?rb8
        case hb8 => (intro w hSw; have s0 := HSO.out w hSw; go_simp <;> with_reducible rfl)
        simp only [Act.put, List.setIfInBounds_toArray, List.set_cons_zero, List.set_cons_succ]
        refine H_on 9 131 ?vb9 rfl rfl (by kernel_rfl) (by kernel_rfl) (by kernel_rfl) (by rfl) ?hb9 hHeld ?rb9
        case hb9 => (intro w hSw; have s0 := HSO.out w hSw; go_simp <;> with_reducible rfl)
        simp only [Act.put, List.setIfInBounds_toArray, List.set_cons_zero, List.set_cons_succ]
        refine H_on 10 132 ?vb10 rfl rfl (by kernel_rfl) (by kernel_rfl) (by kernel_rfl) (by rfl) ?hb10 hHeld ?rb10
        case hb10 => (intro w hSw; have s0 := HSO.out w hSw; go_simp <;> with_reducible rfl)
        simp only [Act.put, List.setIfInBounds_toArray, List.set_cons_zero, List.set_cons_succ]
        refine H_on 11 133 ?vb11 rfl rfl (by kernel_rfl) (by kernel_rfl) (by kernel_rfl) (by rfl) ?hb11 hHeld ?rb11
        case hb11 => (intro w hSw; have s0 := HSO.out w hSw; go_simp <;> with_reducible rfl)
        simp only [Act.put, List.setIfInBounds_toArray, List.set_cons_zero, List.set_cons_succ]
        refine wpAnyH_ready (rs := [12]) (by kernel_rfl) (by simp) ?_
        refine AllReadyH.cons rfl (fun K hK => ?_) AllReadyH.nil
        go_simp
        refine hK.out _ _ (HSS.out _ rfl) (fun hHeld => ?_)
        clear hK K
        try simp only [Act.put, List.setIfInBounds_toArray, List.set_cons_zero, List.set_cons_succ]
        refine H_on 13 135 ?vb13 rfl rfl (by kernel_rfl) (by kernel_rfl) (by kernel_rfl) (by rfl) ?hb13 hHeld ?rb13
        case hb13 => (intro w hSw; have s0 := HSO.out w hSw; go_simp <;> with_reducible rfl)
        simp only [Act.put, List.setIfInBounds_toArray, List.set_cons_zero, List.set_cons_succ]
        refine H_on 14 136 ?vb14 rfl rfl (by kernel_rfl) (by kernel_rfl) (by kernel_rfl) (by rfl) ?hb14 hHeld ?rb14
        case hb14 => (intro w hSw; have s0 := HSO.out w hSw; go_simp <;> with_reducible rfl)
        simp only [Act.put, List.setIfInBounds_toArray, List.set_cons_zero, List.set_cons_succ]
        refine H_on 15 137 ?vb15 rfl rfl (by kernel_rfl) (by kernel_rfl) (by kernel_rfl) (by rfl) ?hb15 hHeld ?rb15
        case hb15 => (intro w hSw; have s0 := HSO.out w hSw; go_simp <;> with_reducible rfl)
        simp only [Act.put, List.setIfInBounds_toArray, List.set_cons_zero, List.set_cons_succ]
        refine wpAnyH_ready (rs := [16]) (by kernel_rfl) (by simp) ?_
        refine AllReadyH.cons rfl (fun K hK => ?_) AllReadyH.nil
        go_simp
        have hne : (ad3.add k).block ≠ g8 := by omega
        refine hK _ _ (HSS.out _ ((Below.heap_setCell _ _ _ _ hne).trans rfl)) (fun hHeld => ?_)
        clear hK K
        refine wpAnyH_done (by kernel_rfl) ?_ _
        refine NoPanic.normal ?_
        have HST : Aside0 (Kd.R k39 39 (wr.drew.setCell ⟨g8, a * 3 + 2, none⟩ (.bool (!y2))) w6.heap.size (fun _ => True) (.slice (some ⟨g8, 0, none⟩) l.length c8) (chK l p (k + 1)) ∧ Below w6.heap.size w6 (wr.drew.setCell ⟨g8, a * 3 + 2, none⟩ (.bool (!y2)))) := ⟨by
          obtain ⟨h1, h2⟩ := Kd.R_seg (okp := fun _ => False) (Kd.R_below HV.out (below_drew (Below.refl _ _))) (a : Int) (by omega) (by omega) (c := cellsT ⟨y0, y1, y2⟩) (seg := [.bool (!y2)]) (j := 2) rfl (fun j u h => HSEG.out j u h) (Nat.le_refl 3) (x' := flipT ⟨y0, y1, y2⟩) (k39_mkM _ _ _ ⟨y0, y1, !y2⟩) (fun _ hk => hk.elim)
          rw [Int.toNat_natCast] at h1 h2
          have e : wr.drew.setCells g8 (a * k39.sz + 2) [.bool (!y2)] = wr.drew.setCell ⟨g8, a * 3 + 2, none⟩ (.bool (!y2)) := rfl
          rw [e] at h1 h2
          refine ⟨by rw [HCH.out]; exact h1, ?_⟩
          exact (below_drew HBr.out).grown h2 HBr.out.size (fun j hj => by cases hj; exact hg8)⟩
        rw [set_drew] at HST
        generalize (wr.setCell ⟨g8, a * 3 + 2, none⟩ (.bool (!y2))).drew = w9 at HST ⊢
        clear hHeld HSS HSO hy2d hfzd
        go_wp2
        go_roundg (p.length - (k + 1))
        case measure => omega
        case rel => exact ⟨k + 1, by omega, by omega, by go_num, ⟨HST.out.1⟩, ⟨HST.out.2⟩⟩
      · have hklz : ¬ (k : Int) < (p.length : Int) := by omega
        obtain rfl : k = p.length := by omega
        obtain ⟨hv1, hv2, hv3⟩ := Kd.R_reads' HV.out
        have HSD : Aside0 (Calls Try.prog 18 #[.int .i64 n, .slice A8 l.length c8] wr fun e w' => e = .returned (.tuple #[.int .i64 e1, .int .i64 0]) ∧ Below wr.heap.size wr w') := ⟨by
          have := feuds_Sides.calls n A8 c8 (chK l p p.length) e1 0 wr hv3 (by rw [ch_len]; exact hv2) F9.out
          rwa [ch_len] at this⟩
        clear hv1 hv2 hv3
        go_upto_region 19 with (go_at_call 18; go_must (refine HSD.out.mono ?_; rintro e w10 ⟨rfl, hb⟩; have HB10 := Aside0.mk (below_then HBr.out HBr.out.size hb); clear hb))
        go_upto_region 20 with (go_at_call 43; go_must (refine (H43.out w10 (Kd.C_below (Kd.C_below HR.out HB6.out) HB10.out)).mono ?_; rintro e w11 ⟨v11, Q, rfl, hr11, hq11, ho11, hb11⟩; obtain ⟨A11, c11, hv11, _, hC11⟩ := Kd.R_reads hr11; subst hv11; have HQ := Aside0.mk hq11; have HO11 := Aside0.mk ho11; have HC11 := Aside0.mk hC11; have HB11 := Aside0.mk hb11; clear hr11 hq11 ho11 hb11 hC11))
        have HPQ : Aside0 (Q.length = Z.length) := ⟨by rw [← HQ.out, List.length_map]⟩
        rcases HCASE.out with ⟨h1, h2, h3⟩ | ⟨h1, h2, h3, h4⟩
        · have hz : Q.length = 0 := by rw [HPQ.out, h2]; rfl
          have hgt : (10 : Int) < (l.length : Int) := by omega
          have hq0 : Q = [] := List.eq_nil_of_length_eq_zero hz
          subst h3 hq0
          go_wp2_with (go_at_call 17; go_must (refine (alive_calls _).mono ?_; rintro e w15 ⟨rfl, hb⟩; have HB12 := Aside0.mk hb; clear hb))
          go_ret
          have hsz := HB6.out.size
          exact ⟨rfl, ((HB6.out.trans (HB10.out.mono hsz)).trans (HB11.out.mono (Nat.le_trans hsz HB10.out.size))).trans (HB12.out.mono (Nat.le_trans (Nat.le_trans hsz HB10.out.size) HB11.out.size))⟩
        · subst h2
          have hle : ¬ (10 : Int) < (l.length : Int) := by omega
          have hqz := HPQ.out
          have hlq : ¬ (p.length : Int) < (Q.length : Int) := by omega
          have HQL : Aside0 (Q.length ≤ 60) := ⟨by omega⟩
          have hbq : ∃ bq, ((Q.length : Int) == 0) = bq ∧ ((p.length : Int) == 0) = bq := by
            by_cases e : p.length = 0
            · exact ⟨true, by rw [beq_iff_eq]; have := h4.mpr e; omega, by rw [beq_iff_eq]; omega⟩
            · exact ⟨false, by rw [beq_eq_false_iff_ne]; intro h; exact e (h4.mp (by omega)), by rw [beq_eq_false_iff_ne]; omega⟩
          obtain ⟨bq, hb1, hb2⟩ := hbq
          clear hqz
          go_upto_region 24 with fail
          go_upto_region 25 with ((with_reducible refine gate_dst (N := 185) rfl ?_); refine Kd.R_make Kd.bool (w0 := w11) w11.heap.size 4 rfl (N := 185) rfl 41 _ _ rfl (l.length : Int) rfl rfl Try.underlying41 (.bool false) 1 info4F rfl (by decide) (by decide) false (ok := fun _ => True) (okp := fun _ => True) rfl (fun _ hk => hk) trivial (by omega) (by omega) (Below.refl _ _) (Nat.le_refl _) ?_; intro v12 w12 ho12 hb12 _ _; rw [Int.toNat_natCast] at ho12; obtain ⟨A12, c12, hv12, _, _⟩ := Kd.R_reads ho12; rw [List.length_replicate] at hv12; subst hv12; have HO12 := Aside0.mk ho12; have HB12 := Aside0.mk hb12; clear ho12 hb12)
          clear hb1 hb2 hlq hle
          go_wp2
          have hql := HQL.out
          go_loopg [22, 23, 24, 25, 26, 27] Q.length (fun gg v22 _ _ _ _ _ wr => ∃ k : Nat, k ≤ Q.length ∧ Q.length - k ≤ gg ∧ v22 = .int .i64 k ∧ Aside0 (Kd.R Kd.bool 4 wr w11.heap.size (fun _ => True) (.slice A12 l.length c12) (usedU l (Z.take k) [] 0)) ∧ Aside0 (Below w11.heap.size w11 wr))
          case atStart => exact ⟨0, Nat.zero_le _, by omega, rfl, ⟨by rw [List.take_zero, used_start]; exact HO12.out⟩, HB12⟩
          case round =>
            clear HO12 HB12
            obtain ⟨k, hk, hgg, rfl, HV, HBr⟩ := hrel
            by_cases hkl : k < Q.length
            · have hkz : (k : Int) < (Q.length : Int) := by omega
              obtain ⟨hk1, hin, hnd, hb8, ⟨fr, hfr, hod⟩, hdis, hst, hnx, hls⟩ := zrow HZ.out HQ.out HO11.out hkl
              obtain ⟨ad, had, hx0⟩ := ReadsOf.at_ (Kd.reads_of_C (d := default) HC11.out) (k : Int) (by omega) (by omega)
              subst had
              rw [Int.toNat_natCast] at hx0
              have hrd : rdOf default Q (k : Int) = Q.getD k default := by simp [rdOf]
              rw [hrd] at hx0
              have HLS : Aside0 (∀ j, k = j + 1 → ∃ (g2 rc2 : Nat) (b2 : List Int), w11.cell? (ad.add j) = some (.slice (some ⟨g2, 0, none⟩) b2.length rc2) ∧ RowOk w11 ((g2, rc2), b2) ∧ lessB b2 (Q.getD k default).2 = true) := ⟨fun j hj => by
                obtain ⟨h1, h2⟩ := hls j hj
                obtain ⟨ad', had', hx1⟩ := ReadsOf.at_ (Kd.reads_of_C (d := default) HC11.out) (j : Int) (by omega) (by omega)
                cases had'
                rw [Int.toNat_natCast, show rdOf default Q (j : Int) = Q.getD j default by simp [rdOf]] at hx1
                exact ⟨_, _, _, hx1, h1, h2⟩⟩
              clear hls hrd
              generalize Q.getD k default = y at hx0 hk1 hin hnd hb8 hfr hdis hst hnx HLS
              obtain ⟨⟨g, rc⟩, b⟩ := y
              dsimp only at hin hnd hb8 hfr hdis hst hnx HLS
              have hx1 : w11.cell? (ad.add k) = some (.slice (some ⟨g, 0, none⟩) b.length rc) := hx0
              have HX := Aside0.mk hx1
              have HLT := Aside0.mk (World.block_lt_of_cell? w11 _ hx1)
              have HXW : Aside0 (∀ w', Below w11.heap.size w11 w' → w'.cell? (ad.add k) = some (.slice (some ⟨g, 0, none⟩) b.length rc)) := ⟨fun w' h => (World.cell?_of_block (h.block _ HLT.out)).trans HX.out⟩
              have HRK := Aside0.mk hk1
              have HIN := Aside0.mk hin
              have HND := Aside0.mk hnd
              have HDIS := Aside0.mk hdis
              have HST := Aside0.mk hst
              have HNX := Aside0.mk hnx
              have HFR := Aside0.mk hfr
              have HB8 := Aside0.mk hb8
              have HWR : Aside0 (∀ w', Below w11.heap.size w11 w' → Kd.C k39 w' A l.length l) := ⟨fun w' h => Kd.C_below (Kd.C_below (Kd.C_below (Kd.C_below HR.out HB6.out) HB10.out) HB11.out) h⟩
              clear hx0 hx1 hk1 hin hnd hdis hst hnx hfr hb8
              have hx := HXW.out wr HBr.out
              go_upto_region 29 with (go_at_call 39; go_must (refine (feuds_IsRing.calls n A c l (some ⟨g, 0, none⟩) rc b fr true 0 wr (HWR.out _ HBr.out) HC.out (HRK.out.below HBr.out).2.2.2.2 HRK.out.2.2.1 HFR.out).mono ?_; rintro e w13 ⟨rfl, hb⟩; have HV := Aside0.mk (Kd.R_below HV.out hb); have HB13 := Aside0.mk (below_then HBr.out HBr.out.size hb); clear hb))
              clear hx
              replace hod : Int.tmod fr 2 = 1 := beq_iff_eq.mp hod
              rcases Nat.eq_zero_or_pos k with hk0 | hk0
              · have hkn : ((0 : Int) < (k : Int)) = False := eq_false (by omega)
                have hkm : (0 < k) = False := eq_false (by omega)
                clear hk0
                refine wp_region_noPanic ?_
                refine wp_region_held_drew (S := fun _ => True) (by kernel_rfl) trivial (fun hHeld => ?_)
                refine H_on 0 203 ?vpb0 rfl rfl (by kernel_rfl) (by kernel_rfl) (by kernel_rfl) (by rfl) ?hpb0 hHeld ?rpb0
                case hpb0 => (intro w hSw;  go_simp <;> with_reducible rfl)
                simp only [Act.put, List.setIfInBounds_toArray, List.set_cons_zero, List.set_cons_succ]
                refine H_on 1 204 ?vpb1 rfl rfl (by kernel_rfl) (by kernel_rfl) (by kernel_rfl) (by rfl) ?hpb1 hHeld ?rpb1
                case hpb1 => (intro w hSw;  go_simp <;> with_reducible rfl)
                simp only [Act.put, List.setIfInBounds_toArray, List.set_cons_zero, List.set_cons_succ]
                refine H_on 2 205 ?vpb2 rfl rfl (by kernel_rfl) (by kernel_rfl) (by kernel_rfl) (by rfl) ?hpb2 hHeld ?rpb2
                case hpb2 => (intro w hSw;  go_simp <;> with_reducible rfl)
                simp only [Act.put, List.setIfInBounds_toArray, List.set_cons_zero, List.set_cons_succ]
                refine H_on 3 206 ?vpb3 rfl rfl (by kernel_rfl) (by kernel_rfl) (by kernel_rfl) (by rfl) ?hpb3 hHeld ?rpb3
                case hpb3 => (intro w hSw;  go_simp <;> with_reducible rfl)
                simp only [Act.put, List.setIfInBounds_toArray, List.set_cons_zero, List.set_cons_succ]
                refine H_on 4 207 ?vpb4 rfl rfl (by kernel_rfl) (by kernel_rfl) (by kernel_rfl) (by rfl) ?hpb4 hHeld ?rpb4
                case hpb4 => (intro w hSw;  go_simp <;> with_reducible rfl)
                simp only [Act.put, List.setIfInBounds_toArray, List.set_cons_zero, List.set_cons_succ]
                refine H_on 5 208 ?vpb5 rfl rfl (by kernel_rfl) (by kernel_rfl) (by kernel_rfl) (by rfl) ?hpb5 hHeld ?rpb5
                case hpb5 => (intro w hSw;  go_simp <;> with_reducible rfl)
                simp only [Act.put, List.setIfInBounds_toArray, List.set_cons_zero, List.set_cons_succ]
                refine H_on 6 209 ?vpb6 rfl rfl (by kernel_rfl) (by kernel_rfl) (by kernel_rfl) (by rfl) ?hpb6 hHeld ?rpb6
                case hpb6 => (intro w hSw;  go_simp <;> with_reducible rfl)
                simp only [Act.put, List.setIfInBounds_toArray, List.set_cons_zero, List.set_cons_succ]
                refine H_on 7 210 ?vpb7 rfl rfl (by kernel_rfl) (by kernel_rfl) (by kernel_rfl) (by rfl) ?hpb7 hHeld ?rpb7
                case hpb7 => (intro w hSw;  go_simp <;> with_reducible rfl)
                simp only [Act.put, List.setIfInBounds_toArray, List.set_cons_zero, List.set_cons_succ]
                refine H_on 8 211 ?vpb8 rfl rfl (by kernel_rfl) (by kernel_rfl) (by kernel_rfl) (by rfl) ?hpb8 hHeld ?rpb8
                case hpb8 => (intro w hSw;  go_simp <;> with_reducible rfl)
                simp only [Act.put, List.setIfInBounds_toArray, List.set_cons_zero, List.set_cons_succ]
                refine H_on 9 212 ?vpb9 rfl rfl (by kernel_rfl) (by kernel_rfl) (by kernel_rfl) (by rfl) ?hpb9 hHeld ?rpb9
                case hpb9 => (intro w hSw;  go_simp <;> with_reducible rfl)
                simp only [Act.put, List.setIfInBounds_toArray, List.set_cons_zero, List.set_cons_succ]
                refine H_on 10 213 ?vpb10 rfl rfl (by kernel_rfl) (by kernel_rfl) (by kernel_rfl) (by rfl) ?hpb10 hHeld ?rpb10
                case hpb10 => (intro w hSw;  go_simp <;> with_reducible rfl)
                simp only [Act.put, List.setIfInBounds_toArray, List.set_cons_zero, List.set_cons_succ]
                refine H_on 11 214 ?vpb11 rfl rfl (by kernel_rfl) (by kernel_rfl) (by kernel_rfl) (by rfl) ?hpb11 hHeld ?rpb11
                case hpb11 => (intro w hSw;  go_simp <;> with_reducible rfl)
                simp only [Act.put, List.setIfInBounds_toArray, List.set_cons_zero, List.set_cons_succ]
                refine H_on 12 215 ?vpb12 rfl rfl (by kernel_rfl) (by kernel_rfl) (by kernel_rfl) (by rfl) ?hpb12 hHeld ?rpb12
                case hpb12 => (intro w hSw;  go_simp <;> with_reducible rfl)
                simp only [Act.put, List.setIfInBounds_toArray, List.set_cons_zero, List.set_cons_succ]
                refine H_on 13 216 ?vpb13 rfl rfl (by kernel_rfl) (by kernel_rfl) (by kernel_rfl) (by rfl) ?hpb13 hHeld ?rpb13
                case hpb13 => (intro w hSw;  go_simp <;> with_reducible rfl)
                simp only [Act.put, List.setIfInBounds_toArray, List.set_cons_zero, List.set_cons_succ]
                refine H_on 14 217 ?vpb14 rfl rfl (by kernel_rfl) (by kernel_rfl) (by kernel_rfl) (by rfl) ?hpb14 hHeld ?rpb14
                case hpb14 => (intro w hSw;  go_simp <;> with_reducible rfl)
                simp only [Act.put, List.setIfInBounds_toArray, List.set_cons_zero, List.set_cons_succ]
                refine H_off 15 218 rfl rfl (by kernel_rfl) (by kernel_rfl) (by kernel_rfl) (by rfl) hHeld ?_
                simp only [Act.put, List.setIfInBounds_toArray, List.set_cons_zero, List.set_cons_succ]
                refine H_off 16 219 rfl rfl (by kernel_rfl) (by kernel_rfl) (by kernel_rfl) (by rfl) hHeld ?_
                simp only [Act.put, List.setIfInBounds_toArray, List.set_cons_zero, List.set_cons_succ]
                refine H_off 17 220 rfl rfl (by kernel_rfl) (by kernel_rfl) (by kernel_rfl) (by rfl) hHeld ?_
                simp only [Act.put, List.setIfInBounds_toArray, List.set_cons_zero, List.set_cons_succ]
                refine H_off 18 221 rfl rfl (by kernel_rfl) (by kernel_rfl) (by kernel_rfl) (by rfl) hHeld ?_
                simp only [Act.put, List.setIfInBounds_toArray, List.set_cons_zero, List.set_cons_succ]
                refine H_off 19 222 rfl rfl (by kernel_rfl) (by kernel_rfl) (by kernel_rfl) (by rfl) hHeld ?_
                simp only [Act.put, List.setIfInBounds_toArray, List.set_cons_zero, List.set_cons_succ]
                refine H_off 20 223 rfl rfl (by kernel_rfl) (by kernel_rfl) (by kernel_rfl) (by rfl) hHeld ?_
                simp only [Act.put, List.setIfInBounds_toArray, List.set_cons_zero, List.set_cons_succ]
                refine H_off 21 224 rfl rfl (by kernel_rfl) (by kernel_rfl) (by kernel_rfl) (by rfl) hHeld ?_
                simp only [Act.put, List.setIfInBounds_toArray, List.set_cons_zero, List.set_cons_succ]
                refine H_off 22 225 rfl rfl (by kernel_rfl) (by kernel_rfl) (by kernel_rfl) (by rfl) hHeld ?_
                simp only [Act.put, List.setIfInBounds_toArray, List.set_cons_zero, List.set_cons_succ]
                refine H_off 23 226 rfl rfl (by kernel_rfl) (by kernel_rfl) (by kernel_rfl) (by rfl) hHeld ?_
                simp only [Act.put, List.setIfInBounds_toArray, List.set_cons_zero, List.set_cons_succ]
                refine H_off 24 227 rfl rfl (by kernel_rfl) (by kernel_rfl) (by kernel_rfl) (by rfl) hHeld ?_
                simp only [Act.put, List.setIfInBounds_toArray, List.set_cons_zero, List.set_cons_succ]
                refine H_off 25 228 rfl rfl (by kernel_rfl) (by kernel_rfl) (by kernel_rfl) (by rfl) hHeld ?_
                simp only [Act.put, List.setIfInBounds_toArray, List.set_cons_zero, List.set_cons_succ]
                refine H_on 26 229 ?vpb26 rfl rfl (by kernel_rfl) (by kernel_rfl) (by kernel_rfl) (by rfl) ?hpb26 hHeld ?rpb26
                case hpb26 => (intro w hSw;  go_simp <;> with_reducible rfl)
                simp only [Act.put, List.setIfInBounds_toArray, List.set_cons_zero, List.set_cons_succ]
                refine H_on 27 230 ?vpb27 rfl rfl (by kernel_rfl) (by kernel_rfl) (by kernel_rfl) (by rfl) ?hpb27 hHeld ?rpb27
                case hpb27 => (intro w hSw;  go_simp <;> with_reducible rfl)
                simp only [Act.put, List.setIfInBounds_toArray, List.set_cons_zero, List.set_cons_succ]
                refine wpAnyH_done (by kernel_rfl) ?_ _
                refine NoPanic.normal ?_
                clear hHeld
                have HV14 : Aside0 (Kd.R Kd.bool 4 w13.drew w11.heap.size (fun _ => True) (.slice A12 l.length c12) (usedU l (Z.take k) [] 0)) := ⟨Kd.R_below HV.out (below_drew (Below.refl _ _))⟩
                have HB14 : Aside0 (Below w11.heap.size w11 w13.drew) := ⟨below_drew HB13.out⟩
                generalize w13.drew = w14 at HV14 HB14 ⊢
                clear HV HB13 hkn hkm
                have hx := HXW.out _ HB14.out
                go_wp2
                clear hx
                go_loopg [26, 27] b.length (fun g3 v26 _ w2 => ∃ m : Nat, m ≤ b.length ∧ b.length - m ≤ g3 ∧ v26 = .int .i64 m ∧ Aside0 (Kd.R Kd.bool 4 w2 w11.heap.size (fun _ => True) (.slice A12 l.length c12) (usedU l (Z.take k) b m)) ∧ Aside0 (Below w11.heap.size w11 w2))
                case atStart => exact ⟨0, Nat.zero_le _, by omega, rfl, ⟨by rw [← HST.out]; exact HV14.out⟩, HB14⟩
                case round =>
                  clear HV14 HB14
                  obtain ⟨m, hm, hg3, rfl, HV2, HB2⟩ := hrel
                  have hx := HXW.out _ HB2.out
                  by_cases hml : m < b.length
                  · have hmz : (m : Int) < (b.length : Int) := by omega
                    obtain ⟨ad9, had9, hy0⟩ := Kd.at_int (HRK.out.below HB2.out).2.2.2.2 (m : Int) (by omega) (by omega)
                    cases had9
                    rw [Int.toNat_natCast] at hy0
                    have hin := HIN.out _ (nx_mem hml)
                    unfold inR at hin
                    obtain ⟨a, ha⟩ := Int.eq_ofNat_of_zero_le hin.1
                    have hrd : rd b (m : Int) = (a : Int) := by rw [← ha]; simp [rd, nx]
                    rw [hrd] at hy0
                    have hal : a < l.length := by omega
                    have halz : ¬ (l.length : Int) ≤ (a : Int) := by omega
                    have ha0 : ¬ (a : Int) < 0 := by omega
                    have HA := Aside0.mk ha
                    have hul := used_len (l := l) (Z.take k) b m
                    obtain ⟨g12, cap12, hv12, _⟩ := Kd.R_form HV2.out (by rw [hul]; omega)
                    injection hv12 with hv1 hv2 hv3
                    subst hv1 hv3
                    clear hv2
                    obtain ⟨cs12, hb12⟩ := Kd.R_typed HV2.out g12 rfl
                    have hCC := (Kd.R_reads' HV2.out).2.2
                    rw [hul] at hCC
                    obtain ⟨ad8, had8, hz0⟩ := Kd.at_bool hCC (a : Int) (by omega) (by omega)
                    cases had8
                    rw [Int.toNat_natCast] at hz0
                    have hrb : rdOf false (usedU l (Z.take k) b m) (a : Int) = false := by
                      have huf := used_free hml hal HA.out (fun y hy i hi => HDIS.out y hy i hi) HND.out
                      simp only [rdOf, Int.toNat_natCast]
                      exact huf
                    rw [hrb] at hz0
                    rw [add_plain] at hy0 hz0
                    clear hrb hrd hul hCC hin ha
                    have halq : (a : Int) < (l.length : Int) := by omega
                    have hg12 : w11.heap.size ≤ g12 := Kd.R_base HV2.out g12 rfl
                    have hfz : wr.frozen? ⟨g12, a, none⟩ = false := by simp [World.frozen?, hb12]
                    clear hb12
                    have HP := Aside0.mk (R_putB HV2.out a true)
                    go_wp2_with ((with_reducible refine gate_store (t := 4) (p := 263) rfl ?_); go_must (refine store_event (t := 4) (p := 263) (v := ?vob0) (w1 := wr.setCell ⟨g12, a, none⟩ (.bool true)) ?hg ?ho ?hn ?hr ?_; (case ho => rfl); (case hg => rfl); (case hn => rfl); (case hr => first | (go_simp; done) | (go_simp; rfl)); intro w15 hw; have HV15 : Aside0 (Kd.R Kd.bool 4 w15 w11.heap.size (fun _ => True) (.slice (some ⟨g12, 0, none⟩) l.length c12) (usedU l (Z.take k) b (m + 1))) := ⟨by rw [hw, used_step _ hml HA.out]; exact HP.out⟩; have HB15 : Aside0 (Below w11.heap.size w11 w15) := ⟨by rw [hw]; exact below_set HB2.out hg12⟩; clear hw))
                    have hb8 := HB8.out
                    go_roundg (b.length - (m + 1))
                    case measure => omega
                    case rel => exact ⟨m + 1, by omega, by omega, by rw [show wrap64 ((m : Int) + 1) = (m : Int) + 1 by unfold wrap64; omega, Int.natCast_add]; rfl, HV15, HB15⟩
                  · have hmz : ¬ (m : Int) < (b.length : Int) := by omega
                    obtain rfl : m = b.length := by omega
                    go_wp2
                    go_roundg (Q.length - (k + 1))
                    case measure => omega
                    case rel => exact ⟨k + 1, by omega, by omega, by go_num, ⟨by rw [HNX.out]; exact HV2.out⟩, HB2⟩
              · obtain ⟨j, hj⟩ : ∃ j, k = j + 1 := ⟨k - 1, by omega⟩
                obtain ⟨g2, rc2, b2, hx2, hk2, hl2⟩ := HLS.out j hj
                have hjk : IntKind.i64.wrap ((k : Int) - 1) = (j : Int) := by rw [show (k : Int) - 1 = (j : Int) by omega]; exact wrap64_nat _ (by omega) (by omega)
                have hjz : (j : Int) < (Q.length : Int) := by omega
                have hkn : ((0 : Int) < (k : Int)) = True := eq_true (by omega)
                have hkm : (0 < k) = True := eq_true (by omega)
                clear hk0
                have hwj : IntKind.i64.wrap (j : Int) = (j : Int) := wrap64_nat _ (by omega) (by omega)
                have HX2 := Aside0.mk hx2
                have HK2 := Aside0.mk hk2
                have HL2 := Aside0.mk hl2
                have HLT2 := Aside0.mk (World.block_lt_of_cell? w11 _ hx2)
                obtain ⟨SS, hSS⟩ : ∃ SS : World → Prop, SS = (fun w' => w'.cell? (ad.add k) = some (.slice (some ⟨g, 0, none⟩) b.length rc) ∧ w'.cell? (ad.add j) = some (.slice (some ⟨g2, 0, none⟩) b2.length rc2)) := ⟨_, rfl⟩
                have HSS : Aside0 (∀ w', Below w11.heap.size w11 w' → SS w') := ⟨fun w' h => by rw [hSS]; exact ⟨HXW.out _ h, (World.cell?_of_block (h.block _ HLT2.out)).trans HX2.out⟩⟩
                have HSO : Aside0 (∀ w', SS w' → w'.cell? (ad.add k) = some (.slice (some ⟨g, 0, none⟩) b.length rc) ∧ w'.cell? (ad.add j) = some (.slice (some ⟨g2, 0, none⟩) b2.length rc2)) := ⟨fun w' h => by rw [hSS] at h; exact h⟩
                clear hSS hx2 hk2 hl2 hj
                refine wp_region_noPanic ?_
                refine wp_region_held_drew (S := SS) (by kernel_rfl) (HSS.out _ (below_drew HB13.out)) (fun hHeld => ?_)
                refine H_on 0 203 ?vqb0 rfl rfl (by kernel_rfl) (by kernel_rfl) (by kernel_rfl) (by rfl) ?hqb0 hHeld ?rqb0
                case hqb0 => (intro w hSw; obtain ⟨s0, s1⟩ := HSO.out w hSw; go_simp <;> with_reducible rfl)
                simp only [Act.put, List.setIfInBounds_toArray, List.set_cons_zero, List.set_cons_succ]
                refine H_on 1 204 ?vqb1 rfl rfl (by kernel_rfl) (by kernel_rfl) (by kernel_rfl) (by rfl) ?hqb1 hHeld ?rqb1
                case hqb1 => (intro w hSw; obtain ⟨s0, s1⟩ := HSO.out w hSw; go_simp <;> with_reducible rfl)
                simp only [Act.put, List.setIfInBounds_toArray, List.set_cons_zero, List.set_cons_succ]
                refine H_on 2 205 ?vqb2 rfl rfl (by kernel_rfl) (by kernel_rfl) (by kernel_rfl) (by rfl) ?hqb2 hHeld ?rqb2
                case hqb2 => (intro w hSw; obtain ⟨s0, s1⟩ := HSO.out w hSw; go_simp <;> with_reducible rfl)
                simp only [Act.put, List.setIfInBounds_toArray, List.set_cons_zero, List.set_cons_succ]
                refine H_on 3 206 ?vqb3 rfl rfl (by kernel_rfl) (by kernel_rfl) (by kernel_rfl) (by rfl) ?hqb3 hHeld ?rqb3
                case hqb3 => (intro w hSw; obtain ⟨s0, s1⟩ := HSO.out w hSw; go_simp <;> with_reducible rfl)
                simp only [Act.put, List.setIfInBounds_toArray, List.set_cons_zero, List.set_cons_succ]
                refine H_on 4 207 ?vqb4 rfl rfl (by kernel_rfl) (by kernel_rfl) (by kernel_rfl) (by rfl) ?hqb4 hHeld ?rqb4
                case hqb4 => (intro w hSw; obtain ⟨s0, s1⟩ := HSO.out w hSw; go_simp <;> with_reducible rfl)
                simp only [Act.put, List.setIfInBounds_toArray, List.set_cons_zero, List.set_cons_succ]
                refine H_on 5 208 ?vqb5 rfl rfl (by kernel_rfl) (by kernel_rfl) (by kernel_rfl) (by rfl) ?hqb5 hHeld ?rqb5
                case hqb5 => (intro w hSw; obtain ⟨s0, s1⟩ := HSO.out w hSw; go_simp <;> with_reducible rfl)
                simp only [Act.put, List.setIfInBounds_toArray, List.set_cons_zero, List.set_cons_succ]
                refine H_on 6 209 ?vqb6 rfl rfl (by kernel_rfl) (by kernel_rfl) (by kernel_rfl) (by rfl) ?hqb6 hHeld ?rqb6
                case hqb6 => (intro w hSw; obtain ⟨s0, s1⟩ := HSO.out w hSw; go_simp <;> with_reducible rfl)
                simp only [Act.put, List.setIfInBounds_toArray, List.set_cons_zero, List.set_cons_succ]
                refine H_on 7 210 ?vqb7 rfl rfl (by kernel_rfl) (by kernel_rfl) (by kernel_rfl) (by rfl) ?hqb7 hHeld ?rqb7
                case hqb7 => (intro w hSw; obtain ⟨s0, s1⟩ := HSO.out w hSw; go_simp <;> with_reducible rfl)
                simp only [Act.put, List.setIfInBounds_toArray, List.set_cons_zero, List.set_cons_succ]
                refine H_on 8 211 ?vqb8 rfl rfl (by kernel_rfl) (by kernel_rfl) (by kernel_rfl) (by rfl) ?hqb8 hHeld ?rqb8
                case hqb8 => (intro w hSw; obtain ⟨s0, s1⟩ := HSO.out w hSw; go_simp <;> with_reducible rfl)
                simp only [Act.put, List.setIfInBounds_toArray, List.set_cons_zero, List.set_cons_succ]
                refine H_on 9 212 ?vqb9 rfl rfl (by kernel_rfl) (by kernel_rfl) (by kernel_rfl) (by rfl) ?hqb9 hHeld ?rqb9
                case hqb9 => (intro w hSw; obtain ⟨s0, s1⟩ := HSO.out w hSw; go_simp <;> with_reducible rfl)
                simp only [Act.put, List.setIfInBounds_toArray, List.set_cons_zero, List.set_cons_succ]
                refine H_on 10 213 ?vqb10 rfl rfl (by kernel_rfl) (by kernel_rfl) (by kernel_rfl) (by rfl) ?hqb10 hHeld ?rqb10
                case hqb10 => (intro w hSw; obtain ⟨s0, s1⟩ := HSO.out w hSw; go_simp <;> with_reducible rfl)
                simp only [Act.put, List.setIfInBounds_toArray, List.set_cons_zero, List.set_cons_succ]
                refine H_on 11 214 ?vqb11 rfl rfl (by kernel_rfl) (by kernel_rfl) (by kernel_rfl) (by rfl) ?hqb11 hHeld ?rqb11
                case hqb11 => (intro w hSw; obtain ⟨s0, s1⟩ := HSO.out w hSw; go_simp <;> with_reducible rfl)
                simp only [Act.put, List.setIfInBounds_toArray, List.set_cons_zero, List.set_cons_succ]
                refine H_on 12 215 ?vqb12 rfl rfl (by kernel_rfl) (by kernel_rfl) (by kernel_rfl) (by rfl) ?hqb12 hHeld ?rqb12
                case hqb12 => (intro w hSw; obtain ⟨s0, s1⟩ := HSO.out w hSw; go_simp <;> with_reducible rfl)
                simp only [Act.put, List.setIfInBounds_toArray, List.set_cons_zero, List.set_cons_succ]
                refine H_on 13 216 ?vqb13 rfl rfl (by kernel_rfl) (by kernel_rfl) (by kernel_rfl) (by rfl) ?hqb13 hHeld ?rqb13
                case hqb13 => (intro w hSw; obtain ⟨s0, s1⟩ := HSO.out w hSw; go_simp <;> with_reducible rfl)
                simp only [Act.put, List.setIfInBounds_toArray, List.set_cons_zero, List.set_cons_succ]
                refine H_on 14 217 ?vqb14 rfl rfl (by kernel_rfl) (by kernel_rfl) (by kernel_rfl) (by rfl) ?hqb14 hHeld ?rqb14
                case hqb14 => (intro w hSw; obtain ⟨s0, s1⟩ := HSO.out w hSw; go_simp <;> with_reducible rfl)
                simp only [Act.put, List.setIfInBounds_toArray, List.set_cons_zero, List.set_cons_succ]
                refine H_on 15 218 ?vqb15 rfl rfl (by kernel_rfl) (by kernel_rfl) (by kernel_rfl) (by rfl) ?hqb15 hHeld ?rqb15
                case hqb15 => (intro w hSw; obtain ⟨s0, s1⟩ := HSO.out w hSw; go_simp <;> with_reducible rfl)
                simp only [Act.put, List.setIfInBounds_toArray, List.set_cons_zero, List.set_cons_succ]
                refine H_on 16 219 ?vqb16 rfl rfl (by kernel_rfl) (by kernel_rfl) (by kernel_rfl) (by rfl) ?hqb16 hHeld ?rqb16
                case hqb16 => (intro w hSw; obtain ⟨s0, s1⟩ := HSO.out w hSw; go_simp <;> with_reducible rfl)
                simp only [Act.put, List.setIfInBounds_toArray, List.set_cons_zero, List.set_cons_succ]
                refine H_on 17 220 ?vqb17 rfl rfl (by kernel_rfl) (by kernel_rfl) (by kernel_rfl) (by rfl) ?hqb17 hHeld ?rqb17
                case hqb17 => (intro w hSw; obtain ⟨s0, s1⟩ := HSO.out w hSw; go_simp <;> with_reducible rfl)
                simp only [Act.put, List.setIfInBounds_toArray, List.set_cons_zero, List.set_cons_succ]
                refine H_on 18 221 ?vqb18 rfl rfl (by kernel_rfl) (by kernel_rfl) (by kernel_rfl) (by rfl) ?hqb18 hHeld ?rqb18
                case hqb18 => (intro w hSw; obtain ⟨s0, s1⟩ := HSO.out w hSw; go_simp <;> with_reducible rfl)
                simp only [Act.put, List.setIfInBounds_toArray, List.set_cons_zero, List.set_cons_succ]
                refine H_on 19 222 ?vqb19 rfl rfl (by kernel_rfl) (by kernel_rfl) (by kernel_rfl) (by rfl) ?hqb19 hHeld ?rqb19
                case hqb19 => (intro w hSw; obtain ⟨s0, s1⟩ := HSO.out w hSw; go_simp <;> with_reducible rfl)
                simp only [Act.put, List.setIfInBounds_toArray, List.set_cons_zero, List.set_cons_succ]
                refine H_on 20 223 ?vqb20 rfl rfl (by kernel_rfl) (by kernel_rfl) (by kernel_rfl) (by rfl) ?hqb20 hHeld ?rqb20
                case hqb20 => (intro w hSw; obtain ⟨s0, s1⟩ := HSO.out w hSw; go_simp <;> with_reducible rfl)
                simp only [Act.put, List.setIfInBounds_toArray, List.set_cons_zero, List.set_cons_succ]
                refine H_on 21 224 ?vqb21 rfl rfl (by kernel_rfl) (by kernel_rfl) (by kernel_rfl) (by rfl) ?hqb21 hHeld ?rqb21
                case hqb21 => (intro w hSw; obtain ⟨s0, s1⟩ := HSO.out w hSw; go_simp <;> with_reducible rfl)
                simp only [Act.put, List.setIfInBounds_toArray, List.set_cons_zero, List.set_cons_succ]
                refine H_on 22 225 ?vqb22 rfl rfl (by kernel_rfl) (by kernel_rfl) (by kernel_rfl) (by rfl) ?hqb22 hHeld ?rqb22
                case hqb22 => (intro w hSw; obtain ⟨s0, s1⟩ := HSO.out w hSw; go_simp <;> with_reducible rfl)
                simp only [Act.put, List.setIfInBounds_toArray, List.set_cons_zero, List.set_cons_succ]
                refine H_on 23 226 ?vqb23 rfl rfl (by kernel_rfl) (by kernel_rfl) (by kernel_rfl) (by rfl) ?hqb23 hHeld ?rqb23
                case hqb23 => (intro w hSw; obtain ⟨s0, s1⟩ := HSO.out w hSw; go_simp <;> with_reducible rfl)
                simp only [Act.put, List.setIfInBounds_toArray, List.set_cons_zero, List.set_cons_succ]
                refine wpAnyH_ready (rs := [24]) (by kernel_rfl) (by simp) ?_
                refine AllReadyH.cons rfl (fun K hK => ?_) AllReadyH.nil
                go_simp
                refine (less_rows (HK2.out.below (below_drew HB13.out)) (HRK.out.below (below_drew HB13.out)) true HL2.out).mono ?_
                rintro e w14 ⟨rfl, hb14⟩
                have HV14 : Aside0 (Kd.R Kd.bool 4 w14 w11.heap.size (fun _ => True) (.slice A12 l.length c12) (usedU l (Z.take k) [] 0)) := ⟨Kd.R_below (Kd.R_below HV.out (below_drew (Below.refl _ _))) hb14⟩
                have HB14 : Aside0 (Below w11.heap.size w11 w14) := ⟨below_then (below_drew HB13.out) (below_drew HB13.out).size hb14⟩
                clear hb14
                go_wp2_with fail
                refine hK.out _ _ (HSS.out _ HB14.out) (fun hHeld => ?_)
                clear hK K
                try simp only [Act.put, List.setIfInBounds_toArray, List.set_cons_zero, List.set_cons_succ]
                refine H_on 25 228 ?vqb25 rfl rfl (by kernel_rfl) (by kernel_rfl) (by kernel_rfl) (by rfl) ?hqb25 hHeld ?rqb25
                case hqb25 => (intro w hSw; obtain ⟨s0, s1⟩ := HSO.out w hSw; go_simp <;> with_reducible rfl)
                simp only [Act.put, List.setIfInBounds_toArray, List.set_cons_zero, List.set_cons_succ]
                refine H_on 26 229 ?vqb26 rfl rfl (by kernel_rfl) (by kernel_rfl) (by kernel_rfl) (by rfl) ?hqb26 hHeld ?rqb26
                case hqb26 => (intro w hSw; obtain ⟨s0, s1⟩ := HSO.out w hSw; go_simp <;> with_reducible rfl)
                simp only [Act.put, List.setIfInBounds_toArray, List.set_cons_zero, List.set_cons_succ]
                refine H_on 27 230 ?vqb27 rfl rfl (by kernel_rfl) (by kernel_rfl) (by kernel_rfl) (by rfl) ?hqb27 hHeld ?rqb27
                case hqb27 => (intro w hSw; obtain ⟨s0, s1⟩ := HSO.out w hSw; go_simp <;> with_reducible rfl)
                simp only [Act.put, List.setIfInBounds_toArray, List.set_cons_zero, List.set_cons_succ]
                refine wpAnyH_done (by kernel_rfl) ?_ _
                refine NoPanic.normal ?_
                clear hHeld HSS HSO HV HB13 hkn hkm hwj hjz hjk HX2 HK2 HL2 HLT2
                have hx := HXW.out _ HB14.out
                go_wp2
                clear hx
                go_loopg [26, 27] b.length (fun g3 v26 _ w2 => ∃ m : Nat, m ≤ b.length ∧ b.length - m ≤ g3 ∧ v26 = .int .i64 m ∧ Aside0 (Kd.R Kd.bool 4 w2 w11.heap.size (fun _ => True) (.slice A12 l.length c12) (usedU l (Z.take k) b m)) ∧ Aside0 (Below w11.heap.size w11 w2))
                case atStart => exact ⟨0, Nat.zero_le _, by omega, rfl, ⟨by rw [← HST.out]; exact HV14.out⟩, HB14⟩
                case round =>
                  clear HV14 HB14
                  obtain ⟨m, hm, hg3, rfl, HV2, HB2⟩ := hrel
                  have hx := HXW.out _ HB2.out
                  by_cases hml : m < b.length
                  · have hmz : (m : Int) < (b.length : Int) := by omega
                    obtain ⟨ad9, had9, hy0⟩ := Kd.at_int (HRK.out.below HB2.out).2.2.2.2 (m : Int) (by omega) (by omega)
                    cases had9
                    rw [Int.toNat_natCast] at hy0
                    have hin := HIN.out _ (nx_mem hml)
                    unfold inR at hin
                    obtain ⟨a, ha⟩ := Int.eq_ofNat_of_zero_le hin.1
                    have hrd : rd b (m : Int) = (a : Int) := by rw [← ha]; simp [rd, nx]
                    rw [hrd] at hy0
                    have hal : a < l.length := by omega
                    have halz : ¬ (l.length : Int) ≤ (a : Int) := by omega
                    have ha0 : ¬ (a : Int) < 0 := by omega
                    have HA := Aside0.mk ha
                    have hul := used_len (l := l) (Z.take k) b m
                    obtain ⟨g12, cap12, hv12, _⟩ := Kd.R_form HV2.out (by rw [hul]; omega)
                    injection hv12 with hv1 hv2 hv3
                    subst hv1 hv3
                    clear hv2
                    obtain ⟨cs12, hb12⟩ := Kd.R_typed HV2.out g12 rfl
                    have hCC := (Kd.R_reads' HV2.out).2.2
                    rw [hul] at hCC
                    obtain ⟨ad8, had8, hz0⟩ := Kd.at_bool hCC (a : Int) (by omega) (by omega)
                    cases had8
                    rw [Int.toNat_natCast] at hz0
                    have hrb : rdOf false (usedU l (Z.take k) b m) (a : Int) = false := by
                      have huf := used_free hml hal HA.out (fun y hy i hi => HDIS.out y hy i hi) HND.out
                      simp only [rdOf, Int.toNat_natCast]
                      exact huf
                    rw [hrb] at hz0
                    rw [add_plain] at hy0 hz0
                    clear hrb hrd hul hCC hin ha
                    have halq : (a : Int) < (l.length : Int) := by omega
                    have hg12 : w11.heap.size ≤ g12 := Kd.R_base HV2.out g12 rfl
                    have hfz : wr.frozen? ⟨g12, a, none⟩ = false := by simp [World.frozen?, hb12]
                    clear hb12
                    have HP := Aside0.mk (R_putB HV2.out a true)
                    go_wp2_with ((with_reducible refine gate_store (t := 4) (p := 263) rfl ?_); go_must (refine store_event (t := 4) (p := 263) (v := ?vob1) (w1 := wr.setCell ⟨g12, a, none⟩ (.bool true)) ?hg ?ho ?hn ?hr ?_; (case ho => rfl); (case hg => rfl); (case hn => rfl); (case hr => first | (go_simp; done) | (go_simp; rfl)); intro w15 hw; have HV15 : Aside0 (Kd.R Kd.bool 4 w15 w11.heap.size (fun _ => True) (.slice (some ⟨g12, 0, none⟩) l.length c12) (usedU l (Z.take k) b (m + 1))) := ⟨by rw [hw, used_step _ hml HA.out]; exact HP.out⟩; have HB15 : Aside0 (Below w11.heap.size w11 w15) := ⟨by rw [hw]; exact below_set HB2.out hg12⟩; clear hw))
                    have hb8 := HB8.out
                    go_roundg (b.length - (m + 1))
                    case measure => omega
                    case rel => exact ⟨m + 1, by omega, by omega, by rw [show wrap64 ((m : Int) + 1) = (m : Int) + 1 by unfold wrap64; omega, Int.natCast_add]; rfl, HV15, HB15⟩
                  · have hmz : ¬ (m : Int) < (b.length : Int) := by omega
                    obtain rfl : m = b.length := by omega
                    go_wp2
                    go_roundg (Q.length - (k + 1))
                    case measure => omega
                    case rel => exact ⟨k + 1, by omega, by omega, by go_num, ⟨by rw [HNX.out]; exact HV2.out⟩, HB2⟩
            · have hklz : ¬ (k : Int) < (Q.length : Int) := by omega
              go_wp2_with (go_at_call 17; go_must (refine (alive_calls _).mono ?_; rintro e w15 ⟨rfl, hb⟩; have HB13 := Aside0.mk (below_then HBr.out HBr.out.size hb); clear hb))
              go_ret
              have hsz := HB6.out.size
              exact ⟨rfl, ((HB6.out.trans (HB10.out.mono hsz)).trans (HB11.out.mono (Nat.le_trans hsz HB10.out.size))).trans (HB13.out.mono (Nat.le_trans (Nat.le_trans hsz HB10.out.size) HB11.out.size))⟩
end Go.Proofs.Ytaegldcifhgnmaa.B

/- FeudsSwitching: what the walk asks for, plain. -/
namespace Go.Proofs.Ytaegldcifhgnmaa.B
open Go.Proofs.Ytaegldcifhgnmaa.A
open Go.RowKit Go.Proofs.YtaegldcifhgnmaaW.PrintWords Go.Proofs.YtaegldcifhgnmaaW.PrintMore
/-! ### where nothing is asked -/
/-! ### plain -/
theorem isRing_some {n : Int} {l : List S39} (ht : tiesE n l = 0) {x : List Int} (hx : x.length ≤ 1000) : feuds_IsRing.f n l x = some ((isRingR l x).1, (isRingR l x).2, 0) := by
  unfold feuds_IsRing.f isRingE
  rw [if_pos hx, if_pos ht, ringP_eq (tiesE_good ht)]
theorem least_some {n : Nat} {l : List S39} (ht : tiesE n l = 0) : feuds_Least.f n l = some (((leastK l (2 ^ n)).1 : Int), (leastK l (2 ^ n)).2, 0) := by
  unfold feuds_Least.f
  rw [if_pos ht, Int.toNat_natCast]
theorem sides_some {n : Nat} {l : List S39} : feuds_Sides.f n l = some ((sidesF n l).1, (sidesF n l).2) := rfl

end Go.Proofs.Ytaegldcifhgnmaa.B

/- FeudsFewest: what is asked of each ring of Apart (plain). -/
namespace Go.Proofs.Ytaegldcifhgnmaa.B
open Go.Proofs.Ytaegldcifhgnmaa.A
open Go.RowKit Go.Proofs.YtaegldcifhgnmaaW.PrintWords Go.Proofs.YtaegldcifhgnmaaW.PrintMore
variable {l : List S39}
theorem apart_rings {n : Nat} (ht : tiesE n l = 0) : ∀ x ∈ apartF l, (∀ i ∈ x, inR l i) ∧ (∀ i j, i < x.length → j < x.length → nx x i = nx x j → i = j) ∧ x.length ≤ 8 ∧ ∃ f : Int, feuds_IsRing.f n l x = some (f, true, 0) ∧ (Int.tmod f 2 == 1) = true := fun x hx => by
  have hg := tiesE_good ht
  have hO := (apart_good_list ht).1 x hx
  obtain ⟨c, hc⟩ := (ringy_cyc hg hO.1).mp hO.2.1
  have hlen := cyc_len ht hc
  have hn := (tiesE_parts ht).1
  have hr : (isRingR l x).2 = true := (isRing_iff hO.1).mpr hO.2.1
  refine ⟨ringy_in hO.2.1, fun i j hi hj e => hc.nodup hg hi hj e, by omega, (isRingR l x).1, ?_, by rw [one_odd hO.1 hr]; exact hO.2.2⟩
  rw [isRing_some ht (by omega), hr]
end Go.Proofs.Ytaegldcifhgnmaa.B

/- FeudsFewest: the walk and the plain law, joined. -/
namespace Go.Proofs.Ytaegldcifhgnmaa.B
open Go.Proofs.Ytaegldcifhgnmaa.A
open Go.RowKit Go.Proofs.YtaegldcifhgnmaaW.PrintWords Go.Proofs.YtaegldcifhgnmaaW.PrintMore
theorem zok {n : Nat} {l : List S39} (ht : tiesE n l = 0) : ZOk n l (apartF l) := by
  obtain ⟨_, h2, h3⟩ := apart_good_list ht
  refine ⟨apart_rings ht, fun j hj => ?_, fun k hk y hy i hi => ?_⟩
  · have h := List.pairwise_iff_getElem.mp h2 j (j + 1) (by omega) hj (Nat.lt_succ_self _)
    rw [List.getD_eq_getElem?_getD, List.getD_eq_getElem?_getD, List.getElem?_eq_getElem (by omega), List.getElem?_eq_getElem hj]
    exact decide_eq_true h
  · obtain ⟨j, hj, e⟩ := List.getElem_of_mem hy
    rw [List.length_take] at hj
    rw [List.getElem_take] at e
    have h := List.pairwise_iff_getElem.mp h3 j k (by omega) hk (by omega)
    rw [e] at h
    rw [List.getD_eq_getElem?_getD, List.getElem?_eq_getElem hk]
    exact h i hi
theorem zok_nil (n : Nat) (l : List S39) : ZOk n l [] := ⟨fun x hx => (by cases hx), fun j hj => (by cases hj), fun k hk => (by cases hk)⟩
theorem wrong_some {n : Nat} {l : List S39} (ht : tiesE n l = 0) {s : Nat} (hs : s < 2 ^ n) : feuds_Wrong.f n l (s : Int) = some (wrongF l s, 0) := by
  have hw : wrongE n l (s : Int) = 0 := by
    unfold wrongE
    rw [if_pos ht, if_pos]
    unfold setB
    rw [Int.toNat_natCast, Bool.and_eq_true, decide_eq_true_iff, decide_eq_true_iff]
    exact ⟨by omega, by exact_mod_cast hs⟩
  unfold feuds_Wrong.f
  rw [hw, if_pos rfl, Int.toNat_natCast]

theorem fewest_any (n : Int) (A : Option Addr) (c : Nat) (l : List S39) (y : Int) (w : World)
    (hr : Kd.C k39 w A l.length l) (hc : l.length ≤ c) (hy : 0 ≤ y ∧ y ≤ 255) :
    Calls Try.prog 15 #[.int .i64 n, .slice A l.length c, .int .u8 y] w fun e w' => e = .returned (.bool true) ∧ Below w.heap.size w w' := by
  by_cases hl : l.length ≤ 60
  · by_cases ht : tiesE n l = 0
    · have h1 := tiesE_parts ht
      obtain ⟨m, rfl⟩ : ∃ m : Nat, n = m := ⟨n.toNat, by omega⟩
      obtain ⟨t, ht2⟩ : ∃ t : Nat, y = t := ⟨y.toNat, by omega⟩
      have hsl : t % 2 ^ m < 2 ^ m := Nat.mod_lt _ (Nat.two_pow_pos m)
      have hs : Int.tmod y (2 ^ m) = ((t % 2 ^ m : Nat) : Int) := by
        rw [ht2, pow_cast, Int.tmod_eq_emod_of_nonneg (Int.natCast_nonneg _)]; rfl
      obtain ⟨s, hs2⟩ : ∃ s, t % 2 ^ m = s := ⟨_, rfl⟩
      rw [hs2] at hsl hs
      have hp := Nat.two_pow_pos m
      obtain ⟨k1, k2, k3⟩ := leastK_spec l (2 ^ m) hp
      have k4 := leastK_le l (2 ^ m) s hsl
      have f6 := least_some ht
      have hno := apart_none ht
      obtain ⟨u, hu⟩ : ∃ u, (leastK l (2 ^ m)).1 = u := ⟨_, rfl⟩
      rw [hu] at k1 k2 k3 f6
      rw [k2] at k3 k4 f6 hno
      have f7 := wrong_some ht hsl
      have f8 := wrong_some ht k1
      have f9 : feuds_Sides.f m (chK l (wrongF l u) (wrongF l u).length) = some ((sidesF m (chK l (wrongF l u) (wrongF l u).length)).1, 0) := by
        rw [sides_some, ch_sides ht k1]
      have hpl : (wrongF l u).length ≤ 60 := by
        have h := List.length_filter_le (fun i => wrB (l.getD i z39) u) (List.range l.length)
        rw [List.length_range] at h
        have e : (wrongF l u).length = ((List.range l.length).filter fun i => wrB (l.getD i z39) u).length := by
          unfold wrongF wrongK; rw [List.length_map]
        omega
      have hmin : (wrongF l s).length = (wrongF l u).length → u ≤ s := fun e => by
        rcases Nat.lt_or_ge s u with h | h
        · have := k3 s h; omega
        · exact h
      by_cases h10 : l.length ≤ 10
      · refine fewest_walk m (by omega) A c l y u s _ _ w hr hc hl ht hy hs f6 f7 f8 k4 hmin hpl (wrong_in u) (apartF l) 0 (fun w hr => (apart_good m A c l w hr ht h10).mono ?_) (Or.inr ⟨h10, rfl, apart_few ht u, hno⟩) (zok ht) _ f9
        rintro e w' ⟨v, ks, ys, rfl, hnd, hk, hp, hs, hR, hok, hb⟩
        have he : lpB keyR ys ys.length 0 [] [] = lgB keyR ys ys.length 0 [] [] := lp_is_lg keyR ys ys.length 0 []
        rw [he] at hR hok
        exact ⟨v, _, rfl, hR, apart_one (prog_one ht hnd hk hp hs), hok, hb⟩
      · refine fewest_walk m (by omega) A c l y u s _ _ w hr hc hl ht hy hs f6 f7 f8 k4 hmin hpl (wrong_in u) [] 8 (fun w hr => (apart_full m A c l w hr ht (by omega)).mono ?_) (Or.inl ⟨by omega, rfl, rfl⟩) (zok_nil m l) _ f9
        rintro e w' ⟨rfl, hb⟩
        exact ⟨_, [], rfl, Kd.R_nil _ _ _ _ _, rfl, fun _ h => (by cases h), hb⟩
    · exact fewest_bad n A c l y w hr hc hl _ rfl ht
  · exact fewest_many n A c l y w hr hc hl
end Go.Proofs.Ytaegldcifhgnmaa.B

/- An argument that is a slice of ties, opened to a row of cells. -/
namespace Go.Proofs.Ytaegldcifhgnmaa.A
open Go.ChangeShapes Go.WideShapes Go.Deep
open Go.RowKit Go.Proofs.YtaegldcifhgnmaaW.PrintWords
theorem list_of {α : Type} {P : Nat → α → Prop} : ∀ n, (∀ i, i < n → ∃ x, P i x) → ∃ l : List α, l.length = n ∧ ∀ (i : Nat) (x : α), l[i]? = some x → P i x := by
  intro n
  induction n with
  | zero => exact fun _ => ⟨[], rfl, fun i x h => by simp at h⟩
  | succ n ih =>
    intro h
    obtain ⟨l, hl, hp⟩ := ih (fun i hi => h i (by omega))
    obtain ⟨x, hx⟩ := h n (by omega)
    refine ⟨l ++ [x], by simp [hl], fun i y hy => ?_⟩
    by_cases hi : i < l.length
    · rw [List.getElem?_append_left hi] at hy
      exact hp i y hy
    · have e : i = n := by
        have := (List.getElem?_eq_some_iff.1 hy).1
        rw [List.length_append, List.length_singleton] at this
        omega
      subst e
      have : x = y := by simpa [← hl] using hy
      subst this
      exact hx

set_option maxRecDepth 100000 in
theorem open_ties {H : Type} {enc : TypeId × Value → H} {W : World} {a : Option Addr} {len cap : Nat} {d : DataW H} {p : List MemPlace} (h : DataW.Trod enc Try.prog W 0 (fun _ => true) true 22 (.slice a len cap) d p) :
    ∃ ps : List S39, ps.length = len ∧ len ≤ cap ∧ cap ≤ maxLen ∧ Kd.C k39 W a len ps := by
  obtain ⟨fuel, hf⟩ := h
  rcases open_slice Try.underlying22 hf with ⟨hcs, _⟩ | ⟨x, l, c, m, n, D, Pl, hcs, _, hl, hm, hmm, _, hi⟩
  · simp [Value.cells] at hcs
    obtain ⟨rfl, rfl, rfl⟩ := hcs
    exact ⟨[], rfl, Nat.le_refl _, Nat.zero_le _, rfl, by omega, fun h => absurd h (by omega)⟩
  · simp [Value.cells] at hcs
    obtain ⟨rfl, rfl, rfl⟩ := hcs
    have hC : Try.prog.cellsOf 39 = 3 := by kernel_rfl
    have he : ∀ i, i < len → ∃ q : S39, W.cell? (x.add (i * 3)) = some (.int .i64 q.f0) ∧ W.cell? (x.add (i * 3 + 1)) = some (.int .i64 q.f1) ∧ W.cell? (x.add (i * 3 + 2)) = some (.bool q.f2) := by
      intro i hil
      obtain ⟨cs', hc, ht'⟩ := hi i (by rw [hmm, if_pos rfl]; omega)
      rw [hC] at hc
      obtain ⟨ys, n', _, _, hlen, hyl, hfd⟩ := DataW.trod_struct Try.underlying39 ht'
      obtain ⟨_, hcl, hat⟩ := World.cells?_some hc
      have h0 := hfd 0 _ rfl
      have h1 := hfd 1 _ rfl
      have h2 := hfd 2 _ rfl
      match cs', hcl, ys, hyl with
      | [c0, c1, c2], _, [y0, y1, y2], _ =>
        have e0 : Try.prog.cellsOf 3 = 1 := by kernel_rfl
        have e4 : Try.prog.cellsOf 4 = 1 := by kernel_rfl
        simp [e0, e4] at h0 h1 h2
        obtain ⟨n0, hn0, _, _⟩ := DataW.trod_int Try.underlying3 h0
        obtain ⟨n1, hn1, _, _⟩ := DataW.trod_int Try.underlying3 h1
        obtain ⟨n2, hn2, _⟩ := DataW.trod_bool Try.underlying4 h2
        simp at hn0 hn1 hn2
        subst hn0 hn1 hn2
        refine ⟨⟨n0, n1, n2⟩, ?_, ?_, ?_⟩
        · have := hat 0 (by omega)
          rw [Go.Deep.add_add] at this
          exact this
        · have := hat 1 (by omega)
          rw [Go.Deep.add_add] at this
          exact this
        · have := hat 2 (by omega)
          rw [Go.Deep.add_add] at this
          exact this
    obtain ⟨ps, hps, hall⟩ := list_of len he
    refine ⟨ps, hps, hl, hm, hps, by unfold maxLen at hm; omega, fun _ => ⟨x, rfl, fun j q hj => ⟨[.int .i64 q.f0, .int .i64 q.f1, .bool q.f2], rfl, k39_mk W q, fun i u hu => ?_⟩⟩⟩
    obtain ⟨g0, g1, g2⟩ := hall j q hj
    match i, hu with
    | 0, hu => cases hu; exact g0
    | 1, hu => cases hu; exact g1
    | 2, hu => cases hu; exact g2
end Go.Proofs.Ytaegldcifhgnmaa.A

/- FeudsFewest holds: its code returns true and leaves what it was given as it was. Conditions: those of the given statement, none besides. -/
namespace Go.Proofs.Ytaegldcifhgnmaa.feudsFewest
open Go.ChangeShapes Go.WideShapes Go.ChangeAt Go.RowKit
open Go.ChangeMaps (open_string shut_string)
open Go.Proofs.YtaegldcifhgnmaaW.PrintWords
open Go.Proofs.Ytaegldcifhgnmaa.A Go.Proofs.Ytaegldcifhgnmaa.B
set_option linter.unusedVariables false
theorem own : ownKnob Try.prog.godebug = none := by kernel_rfl
theorem laidOut : laidOutB Try.prog = true := by kernel_rfl
def IsRow (k : IntKind) (w : World) (a : Option Addr) (len cap : Nat) (zs : List Int) : Prop :=
  (a = none ∧ len = 0 ∧ cap = 0 ∧ zs = []) ∨
  ∃ x, a = some x ∧ len ≤ cap ∧ cap ≤ maxLen ∧ zs.length = cap ∧ (∀ i, i < zs.length → w.cell? (x.add i) = some (.int k (zs.getD i 0))) ∧ ∀ n ∈ zs, (Lit.int k n).wf = true
set_option maxRecDepth 100000 in
theorem lifted (os : Os) (started : os.Started) (H : Type) (enc : TypeId × Value → H) :
    ReturnsInHanded {} Try.checked os 15 .any (Rows.feudsFewestSpec.pre6 enc Try.prog Try.f15 Rows.feudsFewestRow.domain false) (Rows.feudsFewestSpec.post enc Try.prog Try.f15 false true false false) := by
  refine returnsInHanded_of_change_sized (C := Try.checked) own started (by kernel_rfl) Try.func15
    (ChangeSpec.witness6 (enc := enc) (C := Try.checked) false ⟨#[], #[.int .i64 0, .slice none 0 0, .int .u8 0], []⟩ 8 (by kernel_rfl) (by kernel_rfl) (by kernel_rfl) (by kernel_rfl)) ?_
  intro W base args ds gs before hval0 hW hcnd hsz0 _
  have hsz : (DataW.weightsEach Try.prog (Try.f15.params.toList ++ Rows.feudsFewestSpec.plain.varTypes Try.prog) (ds ++ gs)).all (· ≤ reachBytes) = true := hsz0
  have hval : ∀ (j : Nat) t v, Try.f15.params[j]? = some t → args[j]? = some v → Value.okWide Try.prog W .any base t v := hval0
  have hW' := hW
  obtain ⟨p, q, hA0, hV, rfl, hfz, hnd⟩ := hW
  have hA : DataW.TrodAll enc Try.prog W 0 (fun _ => true) true Try.f15.params.toList args.toList ds p := hA0
  rw [Try.params15] at hA hval hsz
  obtain ⟨v0, vs0, d0, ds0, p0, q0, hargs, rfl, rfl, h0, r0⟩ := trodAll_cons hA
  obtain ⟨v1, vs1, d1, ds1, p1, q1, rfl, rfl, rfl, h1, r1⟩ := trodAll_cons r0
  obtain ⟨v2, vs2, d2, ds2, p2, q2, rfl, rfl, rfl, h2, r2⟩ := trodAll_cons r1
  obtain ⟨rfl, rfl, rfl⟩ := trodAll_nil r2
  obtain rfl : args = #[v0, v1, v2] := by cases args; simp_all
  obtain ⟨rfl, rfl⟩ := trodVars_none hV
  obtain ⟨a0, rfl, rfl, rfl, w0⟩ := open_int Try.underlying3 (hval 0 3 v0 rfl rfl) h0
  obtain ⟨a1, len1, cap1, rfl⟩ := okWide_slice Try.underlying22 (hval 1 22 v1 rfl rfl)
  have k1 := h1
  have lt1 : ∀ x ∈ p1, x.block < W.heap.size := by obtain ⟨m, hm⟩ := k1; exact DataW.trod_lt m _ _ _ hm
  obtain ⟨l1, rfl, hc1, hm1, hr1⟩ := open_ties h1
  obtain ⟨a2, rfl, rfl, rfl, w2⟩ := open_int Try.underlying5 (hval 2 5 v2 rfl rfl) h2
  clear hA0 hval0 hsz0 hsz
  refine (fewest_any a0 a1 cap1 l1 a2 W hr1 hc1 (by have := w2; simp [Lit.wf] at this; have e1 : IntKind.u8.min = 0 := rfl; have e2 : IntKind.u8.max = 255 := rfl; omega)).mono fun e W' ⟨he, bel⟩ => ?_
  subst he
  exact ⟨_, rfl, _, _, _, [], _, [], hW', trodAll_mk1 (shut_bool Try.underlying4 _), (trodAll_cons_mk (shut_int Try.underlying3 w0) (trodAll_cons_mk (Below.trod laidOut (by kernel_rfl) (of_decide_eq_true (by kernel_rfl)) k1 bel lt1) (trodAll_cons_mk (shut_int Try.underlying5 w2) trodAll_mk0))), rfl, bel.frame _, fun h => by cases h⟩
theorem over : Rows.feudsFewestRow.holds Try.pinned (OpenSpec.ofChange Rows.feudsFewestSpec) :=
  OpenClaim.holds_of_wide 15 Try.f15 rfl rfl rfl rfl rfl rfl rfl ⟨rfl, rfl, rfl, rfl, rfl⟩ rfl rfl rfl rfl rfl (by kernel_rfl) Try.func15 (by kernel_rfl)
    (of_decide_eq_true (by kernel_rfl)) (by unfold Func.isWrapper; first | (rw [if_pos (by decide +kernel)]; kernel_rfl) | (rw [if_neg (by decide +kernel)]; exact ⟨rfl, rfl⟩))
    (fun os started H enc _ => lifted os started H enc)
theorem proved : Rows.FeudsFewestSaid := over
#print axioms proved
end Go.Proofs.Ytaegldcifhgnmaa.feudsFewest
namespace Go.Proofs.Ytaegldcifhgnmaa
/-- The row, under a short name, for the claim. -/
theorem feudsFewest_holds : Rows.FeudsFewestSaid := feudsFewest.proved
end Go.Proofs.Ytaegldcifhgnmaa
