/- The reference's parts, plain: they are the program's. -/
import Derived.Test.YtdbbcngmnpejnaaDoorZB2
import Derived.Test.YtdbbcngmnpejnaaDoorProg
import Derived.Below
import Derived.Deep.Draws
import Derived.Deep.AppendLies
import Derived.Maps.AppendAt
import Derived.OwnWalk
import Derived.Laws.BytesArg
import Derived.Laws.MakeOwn
import Derived.Laws.OwnMore
import Derived.Deep.OwnRows
import Derived.Tactics
import Derived.Lib.ConvBytes
import Derived.Laws.Slices
import Derived.WalkKit
import Derived.KernelRfl
import Derived.RowKit3
import Derived.Deep.LoopGhost
import Derived.Deep.QuietTactic
import Derived.BigQuiet
import Derived.WideLaws
import Derived.Deep.DeepCutAuto
import Derived.Deep.CutBlock
import Derived.Deep.RegionHeld3
import Derived.Laws.Rows
import Derived.Lib.AppendStr
import Derived.ArgAppend
import Derived.Laws.IdiomCopy
import Derived.OrdersHeld
import Derived.Laws.BitsLemmas
import Derived.RowKit
import Derived.Test.YtdbbcngmnpejnaaDoorWWords
import Derived.Test.YtdbbcngmnpejnaaDoorWLast
import Derived.Test.YtdbbcngmnpejnaaDoorWTab
import Derived.Test.YtdbbcngmnpejnaaDoorWFour
import Derived.Test.YtdbbcngmnpejnaaDoorWQPut
import Derived.Test.YtdbbcngmnpejnaaDoorWApart
import Derived.Test.YtdbbcngmnpejnaaDoorWArr
import Derived.Test.YtdbbcngmnpejnaaDoorWZeros
import Derived.Test.YtdbbcngmnpejnaaDoorWFoot
import Derived.Test.YtdbbcngmnpejnaaDoorWKept
import Derived.Test.YtdbbcngmnpejnaaDoorWShare
import Derived.Test.YtdbbcngmnpejnaaDoorWN
import Derived.Test.YtdbbcngmnpejnaaDoorWFootNe
import Derived.Test.YtdbbcngmnpejnaaDoorWAt
import Derived.Test.YtdbbcngmnpejnaaDoorWEqStruct
import Derived.Test.YtdbbcngmnpejnaaDoorWRepsOne
import Derived.Test.YtdbbcngmnpejnaaDoorWInv
import Derived.Test.YtdbbcngmnpejnaaDoorWInvWords
import Derived.Test.YtdbbcngmnpejnaaDoorWGuard
import Derived.Test.YtdbbcngmnpejnaaDoorWNEv
import Derived.Test.YtdbbcngmnpejnaaDoorWMore
import Derived.Deep.Slices
import Derived.ChangeSame
/- The reference's parts, plain: they are the program's. -/
namespace Go.Proofs.YtdbbcngmnpejnaaDoor.A

/-- To which group each beast belongs, when k triples have been met. -/
def atStep (s : Nat) (g : List Nat) (t : S44) : List Nat := if hasB (allN t) s = true then g.map (fun x => if x = g.getD t.b 0 then g.getD t.a 0 else x) else g
def atQ (l : List S44) (s : Nat) : Nat → List Nat
  | 0 => List.range 8
  | k + 1 => atStep s (atQ l s k) (l.getD k z44)
def inQ (g : List Nat) (s i k : Nat) : Bool := decide (g.getD k 0 = g.getD i 0) && s.testBit k
/-- The part of a beast, of the first k beasts. -/
def partQ (g : List Nat) (s i : Nat) : Nat → Nat
  | 0 => 0
  | k + 1 => if inQ g s i k = true then partQ g s i k + 2 ^ k else partQ g s i k
def outQ (g : List Nat) (s : Nat) : Nat → Nat × List Nat
  | 0 => (0, [])
  | i + 1 => if (s.testBit i && decide ((outQ g s i).1 &&& partQ g s i 8 = 0)) = true then ((outQ g s i).1 ||| partQ g s i 8, (outQ g s i).2 ++ [partQ g s i 8]) else outQ g s i
def partsQ (l : List S44) (s : Nat) : List Nat := (outQ (atQ l s l.length) s 8).2

theorem getD_map0 {f : Nat → Nat} {g : List Nat} {i : Nat} (h : i < g.length) : (g.map f).getD i 0 = f (g.getD i 0) := by
  rw [List.getD_eq_getElem?_getD, List.getD_eq_getElem?_getD, List.getElem?_map, List.getElem?_eq_getElem h]; rfl
structure AtOk (l : List S44) (s k : Nat) (g : List Nat) : Prop where
  len : g.length = 8
  sound : ∀ Q, ClosedJ l s Q → ∀ i j, i < 8 → j < 8 → g.getD i 0 = g.getD j 0 → Q.testBit i = Q.testBit j
  full : ∀ m, m < k → hasB (allN (l.getD m z44)) s = true → g.getD (l.getD m z44).a 0 = g.getD (l.getD m z44).b 0
theorem all_at {t : S44} : (pairN t).testBit t.a = true ∧ (pairN t).testBit t.b = true := by
  unfold pairN
  exact ⟨by rw [pair_bit]; simp, by rw [pair_bit]; simp⟩
theorem at_ok {l : List S44} {s : Nat} (hl : ∀ t ∈ l, Tri8 t) : ∀ k, k ≤ l.length → AtOk l s k (atQ l s k)
  | 0, _ => ⟨by rw [atQ, List.length_range], fun Q _ i j hi hj h => by
      rw [atQ, List.getD_eq_getElem?_getD, List.getD_eq_getElem?_getD, List.getElem?_range hi, List.getElem?_range hj] at h
      have : i = j := h
      rw [this], fun m hm => absurd hm (Nat.not_lt_zero _)⟩
  | k + 1, hk => by
    obtain ⟨h1, h2, h3⟩ := at_ok (s := s) hl k (by omega)
    rw [atQ]
    have ht := getD_mem z44 (show k < l.length from hk)
    obtain ⟨ha, hb, _⟩ := tri_lt (hl _ ht)
    generalize atQ l s k = g at h1 h2 h3
    unfold atStep
    by_cases hs : hasB (allN (l.getD k z44)) s = true
    · rw [if_pos hs]
      generalize htt : l.getD k z44 = t at ht ha hb hs
      have hab : ∀ Q, ClosedJ l s Q → Q.testBit t.a = Q.testBit t.b := fun Q hQ => by
        have hc := hQ t ht (has_iff.mp hs)
        cases e : Q.testBit t.a with
        | true => exact ((hc (meet_iff.mpr ⟨t.a, all_at.1, e⟩)) t.b all_at.2).symm
        | false =>
          cases e2 : Q.testBit t.b with
          | false => rfl
          | true =>
            have := (hc (meet_iff.mpr ⟨t.b, all_at.2, e2⟩)) t.a all_at.1
            rw [e] at this; cases this
      refine ⟨by rw [List.length_map, h1], fun Q hQ i j hi hj h => ?_, fun m hm hms => ?_⟩
      · rw [getD_map0 (by omega), getD_map0 (by omega)] at h
        by_cases e1 : g.getD i 0 = g.getD t.b 0 <;> by_cases e2 : g.getD j 0 = g.getD t.b 0
        · exact h2 Q hQ i j hi hj (e1.trans e2.symm)
        · rw [if_pos e1, if_neg e2] at h
          rw [h2 Q hQ i t.b hi hb e1, ← hab Q hQ, h2 Q hQ t.a j ha hj h]
        · rw [if_neg e1, if_pos e2] at h
          rw [h2 Q hQ j t.b hj hb e2, ← hab Q hQ, h2 Q hQ i t.a hi ha h]
        · rw [if_neg e1, if_neg e2] at h
          exact h2 Q hQ i j hi hj h
      · by_cases e : m = k
        · subst e
          rw [htt, getD_map0 (by omega), getD_map0 (by omega), if_pos rfl]
          split
          · rfl
          · rfl
        · have hmk : m < k := by omega
          have h4 := h3 m hmk hms
          obtain ⟨ha2, hb2, _⟩ := tri_lt (hl _ (getD_mem z44 (show m < l.length by omega)))
          rw [getD_map0 (by omega), getD_map0 (by omega), h4]
    · rw [if_neg hs]
      refine ⟨h1, h2, fun m hm hms => ?_⟩
      by_cases e : m = k
      · subst e; exact absurd hms hs
      · exact h3 m (by omega) hms
theorem partQ_lt (g : List Nat) (s i : Nat) : ∀ k, partQ g s i k < 2 ^ k
  | 0 => by rw [partQ]; decide
  | k + 1 => by
    have := partQ_lt g s i k
    rw [partQ, Nat.pow_succ]
    split <;> omega
theorem partQ_bit (g : List Nat) (s i j : Nat) : ∀ k, (partQ g s i k).testBit j = (decide (j < k) && inQ g s i j)
  | 0 => by rw [partQ, Nat.zero_testBit]; simp
  | k + 1 => by
    have ih := partQ_bit g s i j k
    have hl := partQ_lt g s i k
    rw [partQ]
    by_cases h : inQ g s i k = true
    · rw [if_pos h, Nat.add_comm, ← Nat.mul_one (2 ^ k), Nat.two_pow_add_eq_or_of_lt hl, Nat.mul_one, Nat.testBit_or, two_bit, ih]
      by_cases e : k = j
      · subst e; rw [decide_eq_true rfl, h]; simp
      · rw [decide_eq_false e, Bool.false_or]
        congr 1
        simp only [decide_eq_decide]
        omega
    · rw [if_neg h, ih]
      by_cases e : k = j
      · subst e
        rw [Bool.not_eq_true] at h
        rw [h]; simp
      · congr 1
        simp only [decide_eq_decide]
        omega
theorem inQ_iff {g : List Nat} {s i k : Nat} : inQ g s i k = true ↔ g.getD k 0 = g.getD i 0 ∧ s.testBit k = true := by
  unfold inQ
  rw [Bool.and_eq_true, decide_eq_true_iff]
theorem part_mem {g : List Nat} {s i j : Nat} : (partQ g s i 8).testBit j = true ↔ j < 8 ∧ g.getD j 0 = g.getD i 0 ∧ s.testBit j = true := by
  rw [partQ_bit, Bool.and_eq_true, decide_eq_true_iff, inQ_iff]
structure OutOk (g : List Nat) (s i : Nat) (r : Nat × List Nat) : Prop where
  met : ∀ j, r.1.testBit j = true ↔ j < 8 ∧ s.testBit j = true ∧ ∃ k, k < i ∧ s.testBit k = true ∧ g.getD j 0 = g.getD k 0
  mem : ∀ p ∈ r.2, ∃ k, k < i ∧ s.testBit k = true ∧ p = partQ g s k 8 ∧ low p = k
  apart : r.2.Pairwise fun a b => a &&& b = 0 ∧ low a < low b
  all : ∀ k, k < i → s.testBit k = true → ∃ p ∈ r.2, p.testBit k = true
theorem out_ok {g : List Nat} {s : Nat} (hs : s < 256) : ∀ i, i ≤ 8 → OutOk g s i (outQ g s i)
  | 0, _ => ⟨fun j => (by rw [outQ]; simp), fun p hp => (by rw [outQ] at hp; cases hp), (by rw [outQ]; exact List.Pairwise.nil), fun k hk => absurd hk (Nat.not_lt_zero _)⟩
  | i + 1, hi => by
    obtain ⟨h1, h2, h3, h4⟩ := out_ok (g := g) hs i (by omega)
    rw [outQ]
    generalize outQ g s i = r at h1 h2 h3 h4
    by_cases hb : s.testBit i = true
    · by_cases hm : r.1 &&& partQ g s i 8 = 0
      · rw [if_pos (by rw [hb, decide_eq_true hm]; rfl)]
        have hpi : (partQ g s i 8).testBit i = true := part_mem.mpr ⟨by omega, rfl, hb⟩
        have hno : ∀ k, k < i → s.testBit k = true → g.getD k 0 ≠ g.getD i 0 := fun k hk hkb e => by
          have hmi := (h1 i).mpr ⟨by omega, hb, k, hk, hkb, e.symm⟩
          have := disj_iff.mp hm i hmi
          rw [hpi] at this; cases this
        have hlow : low (partQ g s i 8) = i := by
          have hl8 : partQ g s i 8 < 256 := partQ_lt g s i 8
          have hle := low_le hl8 hpi
          obtain ⟨a, b, c⟩ := part_mem.mp (low_bit (bit_ne hpi) hl8)
          rcases Nat.lt_or_ge (low (partQ g s i 8)) i with h | h
          · exact absurd b (hno _ h c)
          · omega
        refine ⟨fun j => ?_, fun p hp => ?_, ?_, fun k hk hkb => ?_⟩
        · show (r.1 ||| partQ g s i 8).testBit j = true ↔ _
          rw [Nat.testBit_or, Bool.or_eq_true, h1, part_mem]
          constructor
          · rintro (⟨a, b, k, c, d, e⟩ | ⟨a, b, c⟩)
            · exact ⟨a, b, k, by omega, d, e⟩
            · exact ⟨a, c, i, by omega, hb, b⟩
          · rintro ⟨a, b, k, c, d, e⟩
            by_cases ek : k = i
            · subst ek; exact .inr ⟨a, e, b⟩
            · exact .inl ⟨a, b, k, by omega, d, e⟩
        · rcases List.mem_append.mp hp with hp | hp
          · obtain ⟨k, a, b, c, d⟩ := h2 p hp
            exact ⟨k, by omega, b, c, d⟩
          · rw [List.mem_singleton.mp hp]
            exact ⟨i, by omega, hb, rfl, hlow⟩
        · refine List.pairwise_append.mpr ⟨h3, List.pairwise_singleton _ _, fun a ha b hb2 => ?_⟩
          rw [List.mem_singleton.mp hb2]
          obtain ⟨k, hk, hkb, rfl, hkl⟩ := h2 a ha
          refine ⟨disj_iff.mpr fun j hj => ?_, by rw [hkl, hlow]; exact hk⟩
          obtain ⟨x, y, z⟩ := part_mem.mp hj
          exact disj_iff.mp hm j ((h1 j).mpr ⟨x, z, k, hk, hkb, y⟩)
        · by_cases ek : k = i
          · subst ek; exact ⟨_, List.mem_append_right _ (List.mem_singleton.mpr rfl), hpi⟩
          · obtain ⟨p, hp, hpk⟩ := h4 k (by omega) hkb
            exact ⟨p, List.mem_append_left _ hp, hpk⟩
      · rw [if_neg (by rw [decide_eq_false hm, Bool.and_false]; exact Bool.false_ne_true)]
        obtain ⟨j, hj1, hj2⟩ := meet_iff.mp hm
        obtain ⟨a, b, k, hk, hkb, e⟩ := (h1 j).mp hj1
        obtain ⟨_, e2, _⟩ := part_mem.mp hj2
        have eik : g.getD i 0 = g.getD k 0 := e2.symm.trans e
        refine ⟨fun j => ?_, fun p hp => ?_, h3, fun k2 hk2 hkb2 => ?_⟩
        · rw [h1]
          constructor
          · rintro ⟨a, b, k, c, d, e⟩; exact ⟨a, b, k, by omega, d, e⟩
          · rintro ⟨a, b, k2, c, d, e⟩
            by_cases ek : k2 = i
            · subst ek; exact ⟨a, b, k, hk, hkb, e.trans eik⟩
            · exact ⟨a, b, k2, by omega, d, e⟩
        · obtain ⟨k, a, b, c, d⟩ := h2 p hp
          exact ⟨k, by omega, b, c, d⟩
        · by_cases ek : k2 = i
          · subst ek
            obtain ⟨p, hp, hpk⟩ := h4 k hk hkb
            obtain ⟨k3, x1, x2, rfl, x4⟩ := h2 p hp
            obtain ⟨_, y2, _⟩ := part_mem.mp hpk
            exact ⟨_, hp, part_mem.mpr ⟨by omega, eik.trans y2, hb⟩⟩
          · exact h4 k2 (by omega) hkb2
    · rw [if_neg (by rw [Bool.not_eq_true] at hb; rw [hb]; simp)]
      refine ⟨fun j => ?_, fun p hp => ?_, h3, fun k2 hk2 hkb2 => ?_⟩
      · rw [h1]
        constructor
        · rintro ⟨a, b, k, c, d, e⟩; exact ⟨a, b, k, by omega, d, e⟩
        · rintro ⟨a, b, k2, c, d, e⟩
          by_cases ek : k2 = i
          · subst ek; exact absurd d hb
          · exact ⟨a, b, k2, by omega, d, e⟩
      · obtain ⟨k, a, b, c, d⟩ := h2 p hp
        exact ⟨k, by omega, b, c, d⟩
      · by_cases ek : k2 = i
        · subst ek; exact absurd hkb2 hb
        · exact h4 k2 (by omega) hkb2
theorem partsQ_of {l : List S44} {s : Nat} (hl : ∀ t ∈ l, Tri8 t) (hs : s < 256) : PartsOf l s s (partsQ l s) := by
  have hA := at_ok (s := s) hl l.length (Nat.le_refl _)
  have hO := out_ok (g := atQ l s l.length) hs 8 (Nat.le_refl _)
  unfold partsQ
  generalize atQ l s l.length = g at hA hO
  generalize outQ g s 8 = r at hO
  obtain ⟨a1, a2, a3⟩ := hA
  obtain ⟨o1, o2, o3, o4⟩ := hO
  refine ⟨fun p hp => ?_, fun p hp i hi => ?_, fun p hp t ht hts hm => ?_, fun p hp Q hQ hq i hi => ?_, o3, fun i hi => o4 i (bit_lt (k := 8) hs hi) hi⟩
  · obtain ⟨k, hk, hkb, rfl, _⟩ := o2 p hp
    exact bit_ne (i := k) (part_mem.mpr ⟨hk, rfl, hkb⟩)
  · obtain ⟨k, hk, hkb, rfl, _⟩ := o2 p hp
    exact (part_mem.mp hi).2.2
  · obtain ⟨k, hk, hkb, rfl, _⟩ := o2 p hp
    obtain ⟨m, hm2, e⟩ := List.getElem_of_mem ht
    have h5 := a3 m hm2
    rw [show l.getD m z44 = t by rw [List.getD_eq_getElem?_getD, List.getElem?_eq_getElem hm2, Option.getD_some, e]] at h5
    have hab := h5 (has_iff.mpr hts)
    obtain ⟨ha, hb, _⟩ := tri_lt (hl t ht)
    obtain ⟨j, hj1, hj2⟩ := meet_iff.mp hm
    obtain ⟨_, hj3, _⟩ := part_mem.mp hj2
    have hga : g.getD t.a 0 = g.getD k 0 := by
      unfold pairN at hj1
      rw [pair_bit, Bool.or_eq_true, decide_eq_true_iff, decide_eq_true_iff] at hj1
      rcases hj1 with e | e
      · rw [e]; exact hj3
      · rw [hab, e]; exact hj3
    intro i hi
    have his := hts i (pair_sub t i hi)
    unfold pairN at hi
    rw [pair_bit, Bool.or_eq_true, decide_eq_true_iff, decide_eq_true_iff] at hi
    rcases hi with e | e
    · subst e; exact part_mem.mpr ⟨ha, hga, his⟩
    · subst e; exact part_mem.mpr ⟨hb, hab.symm.trans hga, his⟩
  · obtain ⟨k, hk, hkb, rfl, hlow⟩ := o2 p hp
    rw [hlow] at hq
    obtain ⟨x, y, _⟩ := part_mem.mp hi
    rw [a2 Q hQ i k x hk y]; exact hq
end Go.Proofs.YtdbbcngmnpejnaaDoor.A

/- The reference's parts, walked. (Printed by gen_d16.py.) -/
namespace Go.Proofs.YtdbbcngmnpejnaaDoor.A
open Go.RowKit Go.Proofs.YtdbbcngmnpejnaaDoorW.PrintWords Go.Proofs.YtdbbcngmnpejnaaDoorW.PrintMore

/-- An array of eight numbers, as it lies. -/
def atV (g : List Nat) : Array Value := (g.map fun x : Nat => Value.int .i64 (x : Int)).toArray
def AtBlk (W : World) (b : Nat) (g : List Nat) : Prop := W.heap[b]? = some (.cells (atV g) 109 (0, 0))
theorem AtBlk.cell {W : World} {b : Nat} {g : List Nat} (h : AtBlk W b g) {i : Nat} (hi : i < g.length) : W.cell? ⟨b, i, none⟩ = some (.int .i64 ((g.getD i 0 : Nat) : Int)) := by
  have h2 := blk_cell h i
  rw [h2, atV, List.getElem?_toArray, List.getElem?_map, List.getElem?_eq_getElem hi, List.getD_eq_getElem?_getD, List.getElem?_eq_getElem hi]
  rfl
theorem AtBlk.frozen {W : World} {b : Nat} {g : List Nat} (h : AtBlk W b g) (i : Nat) : W.frozen? ⟨b, i, none⟩ = false := blk_frozen h i
theorem AtBlk.put {W : World} {b : Nat} {g : List Nat} (h : AtBlk W b g) (i v : Nat) : AtBlk (W.setCell ⟨b, i, none⟩ (.int .i64 (v : Int))) b (g.set i v) := by
  have h2 := blk_set h i (.int .i64 (v : Int))
  unfold AtBlk
  rw [h2]
  have e : (atV g).setIfInBounds i (.int .i64 (v : Int)) = atV (g.set i v) := by
    unfold atV
    rw [List.setIfInBounds_toArray, List.map_set]
  rw [← e]
theorem AtBlk.below {W w : World} {b : Nat} {g : List Nat} (h : AtBlk W b g) (hb : Below W.heap.size W w) : AtBlk w b g := (hb.block b (blk_lt h)).trans h
theorem AtBlk.drew {W : World} {b : Nat} {g : List Nat} (h : AtBlk W b g) : AtBlk W.drew b g := h
theorem below_put {W w : World} {b : Nat} (h : Below W.heap.size W w) (hb : W.heap.size ≤ b) (i : Nat) (v : Value) : Below W.heap.size W (w.setCell ⟨b, i, none⟩ v) := h.setCell hb _
theorem shr_cond (s k : Nat) : (((s : Int) / 2 ^ k).tmod 2 == 1) = s.testBit k := by
  have h := Nat.testBit_eq_decide_div_mod_eq (x := s) (i := k)
  have e : ((s : Int) / 2 ^ k).tmod 2 = ((s / 2 ^ k % 2 : Nat) : Int) := by
    rw [two_cast, ← Int.natCast_ediv, Int.tmod_eq_emod_of_nonneg (Int.natCast_nonneg _)]
    generalize s / 2 ^ k = q
    omega
  rw [e, h]
  by_cases h2 : s / 2 ^ k % 2 = 1
  · rw [decide_eq_true h2, h2]; rfl
  · rw [decide_eq_false h2, beq_eq_false_iff_ne]; omega
theorem sum_wrap {p X : Nat} (h : p < X) (hX : X < 256) : wrap64 ((p : Int) + ((X : Nat) : Int)) = ((p + X : Nat) : Int) := by
  unfold wrap64
  omega
theorem out_len (g : List Nat) (s : Nat) : ∀ i, i ≤ 8 → (outQ g s i).2.length ≤ 8 := by
  have h : ∀ i, (outQ g s i).2.length ≤ i := fun i => by
    induction i with
    | zero => rw [outQ]; exact Nat.le_refl _
    | succ i ih =>
      rw [outQ]
      split
      · rw [List.length_append, List.length_singleton]; omega
      · omega
  exact fun i hi => Nat.le_trans (h i) hi
set_option maxRecDepth 100000 in
set_option maxHeartbeats 6400000 in
theorem parts_calls (A : Option Addr) (c : Nat) (l : List S44) (s : Nat) (hs : s < 256) (hl : ∀ t ∈ l, Tri8 t) (hn : l.length ≤ 1000) (W : World) (hr : Kd.C k44 W A l.length l) :
    Calls Tryd.prog 50 #[.slice A l.length c, .int .i64 (s : Int)] W fun e w' => ∃ v, e = .returned v ∧ (Kd.int .i64).R 3 w' W.heap.size (fun _ => True) v ((partsQ l s).map fun p : Nat => (p : Int)) ∧ Below W.heap.size W w' := by
  have HR := Aside0.mk hr
  have HL := Aside0.mk hl
  obtain ⟨n, hnn⟩ : ∃ n, l.length = n := ⟨_, rfl⟩
  have HN := Aside0.mk hnn
  obtain ⟨J, hJ⟩ : ∃ J, (partsQ l s).map (fun p : Nat => (p : Int)) = J := ⟨_, rfl⟩
  rw [hJ]
  unfold partsQ at hJ
  rw [hnn] at hn hJ ⊢
  have HJ := Aside0.mk hJ
  obtain ⟨b, hb⟩ : ∃ b, W.heap.size = b := ⟨_, rfl⟩
  have HBL : Aside0 (W.heap.size ≤ b) := ⟨by omega⟩
  clear hr hl hnn hJ
  go_enter Tryd.func50, Tryd.ntmps50
  go_upto_region 3 with fail
  have HA0 : Aside0 (AtBlk (W.alloc (.cells #[.int .i64 0, .int .i64 0, .int .i64 0, .int .i64 0, .int .i64 0, .int .i64 0, .int .i64 0, .int .i64 0] 109)) b (List.replicate 8 0)) := ⟨by rw [← hb]; exact heap_alloc_new W _⟩
  have HB0 : Aside0 (Below W.heap.size W (W.alloc (.cells #[.int .i64 0, .int .i64 0, .int .i64 0, .int .i64 0, .int .i64 0, .int .i64 0, .int .i64 0, .int .i64 0] 109))) := ⟨(Below.refl _ _).alloc (Nat.le_refl _) _⟩
  clear hb
  generalize W.alloc (.cells #[.int .i64 0, .int .i64 0, .int .i64 0, .int .i64 0, .int .i64 0, .int .i64 0, .int .i64 0, .int .i64 0] 109) = W1 at HA0 HB0 ⊢
  go_loopg [6] 8 (fun gg v6 wr => ∃ (i : Nat) (g : List Nat), i ≤ 8 ∧ 8 - i ≤ gg ∧ v6 = .int .i64 (i : Int) ∧ Aside0 (g.length = 8) ∧ Aside0 (∀ j, j < i → g.getD j 0 = j) ∧ Aside0 (AtBlk wr b g) ∧ Aside0 (Below W.heap.size W wr))
  case atStart => exact ⟨0, _, by decide, by decide, rfl, ⟨rfl⟩, ⟨fun j h => absurd h (Nat.not_lt_zero _)⟩, HA0, HB0⟩
  case round =>
    clear HA0 HB0
    obtain ⟨i, g, hi, hgg, rfl, HLG, HGI, HAT, HB⟩ := hrel
    rename World => w1
    by_cases hi8 : i < 8
    · have hiz : (i : Int) < 8 := by omega
      have c0 := HAT.out.cell (i := i) (by have := HLG.out; omega)
      have f0 := HAT.out.frozen i
      go_wp2
      go_roundg (8 - (i + 1))
      case measure => omega
      case rel =>
        refine ⟨i + 1, g.set i i, by omega, by omega, by go_num, ⟨by rw [List.length_set]; exact HLG.out⟩, ⟨fun j hj => ?_⟩, ⟨HAT.out.put i i⟩, ⟨below_put HB.out HBL.out i _⟩⟩
        rw [List.getD_eq_getElem?_getD]
        by_cases e : j = i
        · subst e; rw [List.getElem?_set_self (by have := HLG.out; omega)]; rfl
        · rw [List.getElem?_set_ne (Ne.symm e), ← List.getD_eq_getElem?_getD]; exact HGI.out j (by omega)
    · have hiz : ¬ (i : Int) < 8 := by omega
      have HG0 : Aside0 (g = atQ l s 0) := ⟨by
        rw [atQ]
        refine List.ext_getElem (by rw [HLG.out, List.length_range]) fun j h1 h2 => ?_
        have h3 := HGI.out j (by rw [HLG.out] at h1; omega)
        rw [List.getD_eq_getElem?_getD, List.getElem?_eq_getElem h1] at h3
        rw [List.getElem_range]; exact h3⟩
      have HAT1 : Aside0 (AtBlk w1 b (atQ l s 0)) := ⟨by rw [← HG0.out]; exact HAT.out⟩
      clear HGI HAT HLG hi hgg hi8
      go_upto_region 7 with fail
      go_loopg [7, 8, 9, 10, 11] n (fun g2 v7 _ _ _ _ w2 => ∃ (k : Nat), k ≤ n ∧ n - k ≤ g2 ∧ v7 = .int .i64 (k : Int) ∧ Aside0 (AtBlk w2 b (atQ l s k)) ∧ Aside0 (Below W.heap.size W w2))
      case atStart => exact ⟨0, Nat.zero_le _, by omega, rfl, HAT1, HB⟩
      case round =>
        clear HAT1 HB HG0 hiz
        obtain ⟨k, hk, hgg, rfl, HAT, HB⟩ := hrel
        rename World => w2
        have HLG : Aside0 ((atQ l s k).length = 8) := ⟨(at_ok (s := s) HL.out k (by rw [HN.out]; exact hk)).len⟩
        by_cases hkn : k < n
        · have hkz : (k : Int) < (n : Int) := by omega
          have hkl : k < l.length := by rw [HN.out]; exact hkn
          obtain ⟨ad, had, hx0, hx1, hx2⟩ := at_T44 (Kd.C_below HR.out HB.out) (k : Int) (by omega) (by rw [HN.out]; omega)
          subst had
          rw [Int.toNat_natCast] at hx0 hx1 hx2
          have hrd : rd_T44 l (k : Int) = l.getD k z44 := by simp only [rd_T44, Int.toNat_natCast]
          rw [hrd] at hx0 hx1 hx2
          have ht8 := HL.out _ (getD_mem z44 hkl)
          have HAS : Aside0 (atQ l s (k + 1) = atStep s (atQ l s k) (l.getD k z44)) := ⟨by rw [atQ]⟩
          generalize l.getD k z44 = t at hx0 hx1 hx2 ht8 HAS
          generalize atQ l s k = g at HAT HLG HAS
          obtain ⟨ha8, hb8, hc8⟩ := tri_lt ht8
          have hpa := pair_256 ht8
          have hal := all_256 ht8
          obtain ⟨⟨h00, _⟩, ⟨h10, _⟩, ⟨h20, _⟩⟩ := ht8
          obtain ⟨t0, t1, t2⟩ := t
          dsimp only at hx0 hx1 hx2 h00 h10 h20
          obtain ⟨a, rfl⟩ := Int.eq_ofNat_of_zero_le h00
          obtain ⟨bb, rfl⟩ := Int.eq_ofNat_of_zero_le h10
          obtain ⟨cc, rfl⟩ := Int.eq_ofNat_of_zero_le h20
          have ea : S44.a ⟨(a : Int), (bb : Int), (cc : Int)⟩ = a := rfl
          have eb : S44.b ⟨(a : Int), (bb : Int), (cc : Int)⟩ = bb := rfl
          have ec : S44.c ⟨(a : Int), (bb : Int), (cc : Int)⟩ = cc := rfl
          have HAS2 : Aside0 (atQ l s (k + 1) = if hasB (allN ⟨(a : Int), (bb : Int), (cc : Int)⟩) s = true then g.map (fun x => if x = g.getD bb 0 then g.getD a 0 else x) else g) := ⟨HAS.out⟩
          rw [ea] at ha8
          rw [eb] at hb8
          rw [ec] at hc8
          clear hrd h00 h10 h20 HAS
          have hP : bits .or .i64 ((2 ^ a : Nat) : Int) ((2 ^ bb : Nat) : Int) = ((pairN ⟨(a : Int), (bb : Int), (cc : Int)⟩ : Nat) : Int) := low_or (two_256 ha8) (two_256 hb8)
          have hQ : bits .or .i64 ((pairN ⟨(a : Int), (bb : Int), (cc : Int)⟩ : Nat) : Int) ((2 ^ cc : Nat) : Int) = ((allN ⟨(a : Int), (bb : Int), (cc : Int)⟩ : Nat) : Int) := low_or hpa (two_256 hc8)
          have hD := not_cast hal hs
          have hwa := wrap_two ha8
          have hwb := wrap_two hb8
          have hwc := wrap_two hc8
          have HDZ : Aside0 (diffN (allN ⟨(a : Int), (bb : Int), (cc : Int)⟩) s = 0 ↔ hasB (allN ⟨(a : Int), (bb : Int), (cc : Int)⟩) s = true) := ⟨by rw [← diff_zero]⟩
          clear hpa hal ea eb ec
          generalize diffN (allN ⟨(a : Int), (bb : Int), (cc : Int)⟩) s = dn at hD HDZ
          generalize hasB (allN ⟨(a : Int), (bb : Int), (cc : Int)⟩) s = hsb at HDZ HAS2
          generalize ((pairN ⟨(a : Int), (bb : Int), (cc : Int)⟩ : Nat) : Int) = P at hP hQ
          generalize ((allN ⟨(a : Int), (bb : Int), (cc : Int)⟩ : Nat) : Int) = Q at hQ hD
          generalize ((2 ^ a : Nat) : Int) = XA at hwa hP
          generalize ((2 ^ bb : Nat) : Int) = XB at hwb hP
          generalize ((2 ^ cc : Nat) : Int) = XC at hwc hQ
          go_upto_region 10 with fail
          have HNEW : Aside0 ((w2.alloc (.cells #[.int .i64 (a : Int), .int .i64 (bb : Int), .int .i64 (cc : Int)] 44)).heap[w2.heap.size]? = some (.cells #[.int .i64 (a : Int), .int .i64 (bb : Int), .int .i64 (cc : Int)] 44 (0, 0))) := ⟨heap_alloc_new w2 _⟩
          have HB4 : Aside0 (Below W.heap.size W (w2.alloc (.cells #[.int .i64 (a : Int), .int .i64 (bb : Int), .int .i64 (cc : Int)] 44))) := ⟨below_alloc HB.out _⟩
          have HAT4 : Aside0 (AtBlk (w2.alloc (.cells #[.int .i64 (a : Int), .int .i64 (bb : Int), .int .i64 (cc : Int)] 44)) b g) := ⟨HAT.out.below ((Below.refl _ _).alloc (Nat.le_refl _) _)⟩
          generalize w2.alloc (.cells #[.int .i64 (a : Int), .int .i64 (bb : Int), .int .i64 (cc : Int)] 44) = w4 at HNEW HB4 HAT4 ⊢
          generalize w2.heap.size = gb at HNEW ⊢
          obtain ⟨c0, c1, c2, _⟩ := cells3 HNEW.out
          clear hx0 hx1 hx2
          refine wp_region_noPanic ?_
          refine wp_region_held_drew (S := fun w' => w'.cell? ⟨gb, 0, none⟩ = some (.int .i64 (a : Int)) ∧ w'.cell? ⟨gb, 1, none⟩ = some (.int .i64 (bb : Int)) ∧ w'.cell? ⟨gb, 2, none⟩ = some (.int .i64 (cc : Int))) (by kernel_rfl) (⟨c0, c1, c2⟩) (fun hHeld => ?_)
          refine H_on 0 34 ?vr0 rfl rfl (by kernel_rfl) (by kernel_rfl) (by kernel_rfl) (by rfl) ?hr0 hHeld ?rr0
          case hr0 => (intro w hSw; obtain ⟨s0, s1, s2⟩ := hSw; go_simp <;> with_reducible rfl)
          simp only [Act.put, List.setIfInBounds_toArray, List.set_cons_zero, List.set_cons_succ]
          refine H_on 1 35 ?vr1 rfl rfl (by kernel_rfl) (by kernel_rfl) (by kernel_rfl) (by rfl) ?hr1 hHeld ?rr1
          case hr1 => (intro w hSw; obtain ⟨s0, s1, s2⟩ := hSw; go_simp <;> with_reducible rfl)
          simp only [Act.put, List.setIfInBounds_toArray, List.set_cons_zero, List.set_cons_succ]
          refine H_on 2 36 ?vr2 rfl rfl (by kernel_rfl) (by kernel_rfl) (by kernel_rfl) (by rfl) ?hr2 hHeld ?rr2
          case hr2 => (intro w hSw; obtain ⟨s0, s1, s2⟩ := hSw; go_simp <;> with_reducible rfl)
          simp only [Act.put, List.setIfInBounds_toArray, List.set_cons_zero, List.set_cons_succ]
          refine H_on 3 37 ?vr3 rfl rfl (by kernel_rfl) (by kernel_rfl) (by kernel_rfl) (by rfl) ?hr3 hHeld ?rr3
          case hr3 => (intro w hSw; obtain ⟨s0, s1, s2⟩ := hSw; go_simp <;> with_reducible rfl)
          simp only [Act.put, List.setIfInBounds_toArray, List.set_cons_zero, List.set_cons_succ]
          refine H_on 4 38 ?vr4 rfl rfl (by kernel_rfl) (by kernel_rfl) (by kernel_rfl) (by rfl) ?hr4 hHeld ?rr4
          case hr4 => (intro w hSw; obtain ⟨s0, s1, s2⟩ := hSw; go_simp <;> with_reducible rfl)
          simp only [Act.put, List.setIfInBounds_toArray, List.set_cons_zero, List.set_cons_succ]
          refine H_on 5 39 ?vr5 rfl rfl (by kernel_rfl) (by kernel_rfl) (by kernel_rfl) (by rfl) ?hr5 hHeld ?rr5
          case hr5 => (intro w hSw; obtain ⟨s0, s1, s2⟩ := hSw; go_simp <;> with_reducible rfl)
          simp only [Act.put, List.setIfInBounds_toArray, List.set_cons_zero, List.set_cons_succ]
          refine H_on 6 40 ?vr6 rfl rfl (by kernel_rfl) (by kernel_rfl) (by kernel_rfl) (by rfl) ?hr6 hHeld ?rr6
          case hr6 => (intro w hSw; obtain ⟨s0, s1, s2⟩ := hSw; go_simp <;> with_reducible rfl)
          simp only [Act.put, List.setIfInBounds_toArray, List.set_cons_zero, List.set_cons_succ]
          refine H_on 7 41 ?vr7 rfl rfl (by kernel_rfl) (by kernel_rfl) (by kernel_rfl) (by rfl) ?hr7 hHeld ?rr7
          case hr7 => (intro w hSw; obtain ⟨s0, s1, s2⟩ := hSw; go_simp <;> with_reducible rfl)
          simp only [Act.put, List.setIfInBounds_toArray, List.set_cons_zero, List.set_cons_succ]
          refine H_on 8 42 ?vr8 rfl rfl (by kernel_rfl) (by kernel_rfl) (by kernel_rfl) (by rfl) ?hr8 hHeld ?rr8
          case hr8 => (intro w hSw; obtain ⟨s0, s1, s2⟩ := hSw; go_simp <;> with_reducible rfl)
          simp only [Act.put, List.setIfInBounds_toArray, List.set_cons_zero, List.set_cons_succ]
          refine H_on 9 43 ?vr9 rfl rfl (by kernel_rfl) (by kernel_rfl) (by kernel_rfl) (by rfl) ?hr9 hHeld ?rr9
          case hr9 => (intro w hSw; obtain ⟨s0, s1, s2⟩ := hSw; go_simp <;> with_reducible rfl)
          simp only [Act.put, List.setIfInBounds_toArray, List.set_cons_zero, List.set_cons_succ]
          refine H_on 10 44 ?vr10 rfl rfl (by kernel_rfl) (by kernel_rfl) (by kernel_rfl) (by rfl) ?hr10 hHeld ?rr10
          case hr10 => (intro w hSw; obtain ⟨s0, s1, s2⟩ := hSw; go_simp <;> with_reducible rfl)
          simp only [Act.put, List.setIfInBounds_toArray, List.set_cons_zero, List.set_cons_succ]
          refine H_on 11 45 ?vr11 rfl rfl (by kernel_rfl) (by kernel_rfl) (by kernel_rfl) (by rfl) ?hr11 hHeld ?rr11
          case hr11 => (intro w hSw; obtain ⟨s0, s1, s2⟩ := hSw; go_simp <;> with_reducible rfl)
          simp only [Act.put, List.setIfInBounds_toArray, List.set_cons_zero, List.set_cons_succ]
          refine H_on 12 46 ?vr12 rfl rfl (by kernel_rfl) (by kernel_rfl) (by kernel_rfl) (by rfl) ?hr12 hHeld ?rr12
          case hr12 => (intro w hSw; obtain ⟨s0, s1, s2⟩ := hSw; go_simp <;> with_reducible rfl)
          simp only [Act.put, List.setIfInBounds_toArray, List.set_cons_zero, List.set_cons_succ]
          refine H_on 13 47 ?vr13 rfl rfl (by kernel_rfl) (by kernel_rfl) (by kernel_rfl) (by rfl) ?hr13 hHeld ?rr13
          case hr13 => (intro w hSw; obtain ⟨s0, s1, s2⟩ := hSw; go_simp <;> with_reducible rfl)
          simp only [Act.put, List.setIfInBounds_toArray, List.set_cons_zero, List.set_cons_succ]
          refine wpAnyH_done (by kernel_rfl) ?_ _
          refine NoPanic.normal ?_
          clear hHeld
          by_cases hz : dn = 0
          · have hs1 := HDZ.out.mp hz
            have HAS3 : Aside0 (atQ l s (k + 1) = g.map (fun x => if x = g.getD bb 0 then g.getD a 0 else x)) := ⟨by rw [HAS2.out, if_pos hs1]⟩
            subst hz
            have ca := HAT4.out.cell (i := a) (by have := HLG.out; omega)
            have cb := HAT4.out.cell (i := bb) (by have := HLG.out; omega)
            generalize g.getD a 0 = ga at ca HAS3
            generalize g.getD bb 0 = gbb at cb HAS3
            clear HAS2 HDZ hs1
            go_upto_region 11 with fail
            refine wp_region_noPanic ?_
            refine wp_region_held_drew (S := fun w' => w'.cell? ⟨gb, 0, none⟩ = some (.int .i64 (a : Int)) ∧ w'.cell? ⟨gb, 1, none⟩ = some (.int .i64 (bb : Int)) ∧ w'.cell? ⟨b, a, none⟩ = some (.int .i64 (ga : Int)) ∧ w'.cell? ⟨b, bb, none⟩ = some (.int .i64 (gbb : Int))) (by kernel_rfl) (⟨c0, c1, ca, cb⟩) (fun hHeld => ?_)
            refine H_on 0 48 ?vq0 rfl rfl (by kernel_rfl) (by kernel_rfl) (by kernel_rfl) (by rfl) ?hq0 hHeld ?rq0
            case hq0 => (intro w hSw; obtain ⟨s0, s1, s2, s3⟩ := hSw; go_simp <;> with_reducible rfl)
            simp only [Act.put, List.setIfInBounds_toArray, List.set_cons_zero, List.set_cons_succ]
            refine H_on 1 49 ?vq1 rfl rfl (by kernel_rfl) (by kernel_rfl) (by kernel_rfl) (by rfl) ?hq1 hHeld ?rq1
            case hq1 => (intro w hSw; obtain ⟨s0, s1, s2, s3⟩ := hSw; go_simp <;> with_reducible rfl)
            simp only [Act.put, List.setIfInBounds_toArray, List.set_cons_zero, List.set_cons_succ]
            refine H_on 2 50 ?vq2 rfl rfl (by kernel_rfl) (by kernel_rfl) (by kernel_rfl) (by rfl) ?hq2 hHeld ?rq2
            case hq2 => (intro w hSw; obtain ⟨s0, s1, s2, s3⟩ := hSw; go_simp <;> with_reducible rfl)
            simp only [Act.put, List.setIfInBounds_toArray, List.set_cons_zero, List.set_cons_succ]
            refine H_on 3 51 ?vq3 rfl rfl (by kernel_rfl) (by kernel_rfl) (by kernel_rfl) (by rfl) ?hq3 hHeld ?rq3
            case hq3 => (intro w hSw; obtain ⟨s0, s1, s2, s3⟩ := hSw; go_simp <;> with_reducible rfl)
            simp only [Act.put, List.setIfInBounds_toArray, List.set_cons_zero, List.set_cons_succ]
            refine H_on 4 52 ?vq4 rfl rfl (by kernel_rfl) (by kernel_rfl) (by kernel_rfl) (by rfl) ?hq4 hHeld ?rq4
            case hq4 => (intro w hSw; obtain ⟨s0, s1, s2, s3⟩ := hSw; go_simp <;> with_reducible rfl)
            simp only [Act.put, List.setIfInBounds_toArray, List.set_cons_zero, List.set_cons_succ]
            refine H_on 5 53 ?vq5 rfl rfl (by kernel_rfl) (by kernel_rfl) (by kernel_rfl) (by rfl) ?hq5 hHeld ?rq5
            case hq5 => (intro w hSw; obtain ⟨s0, s1, s2, s3⟩ := hSw; go_simp <;> with_reducible rfl)
            simp only [Act.put, List.setIfInBounds_toArray, List.set_cons_zero, List.set_cons_succ]
            refine H_on 6 54 ?vq6 rfl rfl (by kernel_rfl) (by kernel_rfl) (by kernel_rfl) (by rfl) ?hq6 hHeld ?rq6
            case hq6 => (intro w hSw; obtain ⟨s0, s1, s2, s3⟩ := hSw; go_simp <;> with_reducible rfl)
            simp only [Act.put, List.setIfInBounds_toArray, List.set_cons_zero, List.set_cons_succ]
            refine H_on 7 55 ?vq7 rfl rfl (by kernel_rfl) (by kernel_rfl) (by kernel_rfl) (by rfl) ?hq7 hHeld ?rq7
            case hq7 => (intro w hSw; obtain ⟨s0, s1, s2, s3⟩ := hSw; go_simp <;> with_reducible rfl)
            simp only [Act.put, List.setIfInBounds_toArray, List.set_cons_zero, List.set_cons_succ]
            refine H_on 8 9 ?vq8 rfl rfl (by kernel_rfl) (by kernel_rfl) (by kernel_rfl) (by rfl) ?hq8 hHeld ?rq8
            case hq8 => (intro w hSw; obtain ⟨s0, s1, s2, s3⟩ := hSw; go_simp <;> with_reducible rfl)
            simp only [Act.put, List.setIfInBounds_toArray, List.set_cons_zero, List.set_cons_succ]
            refine H_on 9 10 ?vq9 rfl rfl (by kernel_rfl) (by kernel_rfl) (by kernel_rfl) (by rfl) ?hq9 hHeld ?rq9
            case hq9 => (intro w hSw; obtain ⟨s0, s1, s2, s3⟩ := hSw; go_simp <;> with_reducible rfl)
            simp only [Act.put, List.setIfInBounds_toArray, List.set_cons_zero, List.set_cons_succ]
            refine wpAnyH_done (by kernel_rfl) ?_ _
            refine NoPanic.normal ?_
            clear hHeld
            go_upto_region 13 with fail
            have HAT5 : Aside0 (AtBlk w4.drew.drew b g) := ⟨HAT4.out⟩
            have HB5 : Aside0 (Below W.heap.size W w4.drew.drew) := ⟨below_drew (below_drew HB4.out)⟩
            generalize w4.drew.drew = w5 at HAT5 HB5 ⊢
            clear ca cb c0 c1 c2
            go_loopg [11] 8 (fun g3 v11 w3 => ∃ (j : Nat) (cur : List Nat), j ≤ 8 ∧ 8 - j ≤ g3 ∧ v11 = .int .i64 (j : Int) ∧ Aside0 (cur.length = 8) ∧ Aside0 (∀ m, m < 8 → cur.getD m 0 = if m < j then (if g.getD m 0 = gbb then ga else g.getD m 0) else g.getD m 0) ∧ Aside0 (AtBlk w3 b cur) ∧ Aside0 (Below W.heap.size W w3))
            case atStart => exact ⟨0, g, by decide, by decide, rfl, HLG, ⟨fun m _ => by rw [if_neg (Nat.not_lt_zero _)]⟩, HAT5, HB5⟩
            case round =>
              clear HAT5 HB5
              obtain ⟨j, cur, hj, hgg3, rfl, HLC, HCU, HATC, HB6⟩ := hrel
              rename World => w3
              by_cases hj8 : j < 8
              · have hjz : (j : Int) < 8 := by omega
                have cj := HATC.out.cell (i := j) (by have := HLC.out; omega)
                have fj := HATC.out.frozen j
                have HCJ : Aside0 (cur.getD j 0 = g.getD j 0) := ⟨by rw [HCU.out j hj8, if_neg (Nat.lt_irrefl _)]⟩
                have HPUT := Aside0.mk (HATC.out.put j ga)
                by_cases he : cur.getD j 0 = gbb
                · have hez : (((cur.getD j 0 : Nat) : Int) == (gbb : Int)) = true := by rw [beq_iff_eq]; omega
                  have HE : Aside0 (g.getD j 0 = gbb) := ⟨HCJ.out.symm.trans he⟩
                  clear he
                  generalize cur.getD j 0 = cj0 at cj hez HCJ
                  go_wp2
                  go_roundg (8 - (j + 1))
                  case measure => omega
                  case rel =>
                    refine ⟨j + 1, cur.set j ga, by omega, by omega, by go_num, ⟨by rw [List.length_set]; exact HLC.out⟩, ⟨fun m hm => ?_⟩, HPUT, ⟨below_put HB6.out HBL.out j _⟩⟩
                    rw [List.getD_eq_getElem?_getD]
                    by_cases e : m = j
                    · subst e; rw [List.getElem?_set_self (by have := HLC.out; omega), if_pos (Nat.lt_succ_self _), if_pos HE.out]; rfl
                    · rw [List.getElem?_set_ne (Ne.symm e), ← List.getD_eq_getElem?_getD, HCU.out m hm]
                      by_cases e2 : m < j
                      · rw [if_pos e2, if_pos (show m < j + 1 by omega)]
                      · rw [if_neg e2, if_neg (show ¬ m < j + 1 by omega)]
                · have hez : (((cur.getD j 0 : Nat) : Int) == (gbb : Int)) = false := by rw [beq_eq_false_iff_ne]; omega
                  have HE : Aside0 (g.getD j 0 ≠ gbb) := ⟨fun e => he (HCJ.out.trans e)⟩
                  clear he
                  generalize cur.getD j 0 = cj0 at cj hez HCJ
                  go_wp2
                  go_roundg (8 - (j + 1))
                  case measure => omega
                  case rel =>
                    refine ⟨j + 1, cur, by omega, by omega, by go_num, HLC, ⟨fun m hm => ?_⟩, HATC, HB6⟩
                    rw [HCU.out m hm]
                    by_cases e : m = j
                    · subst e; rw [if_neg (Nat.lt_irrefl _), if_pos (Nat.lt_succ_self _), if_neg HE.out]
                    · by_cases e2 : m < j
                      · rw [if_pos e2, if_pos (show m < j + 1 by omega)]
                      · rw [if_neg e2, if_neg (show ¬ m < j + 1 by omega)]
              · have hjz : ¬ (j : Int) < 8 := by omega
                have HEQ : Aside0 (cur = atQ l s (k + 1)) := ⟨by
                  rw [HAS3.out]
                  refine List.ext_getElem (by rw [HLC.out, List.length_map, HLG.out]) fun m h1 h2 => ?_
                  have h3 := HCU.out m (by rw [HLC.out] at h1; exact h1)
                  rw [if_pos (by rw [HLC.out] at h1; omega), List.getD_eq_getElem?_getD, List.getElem?_eq_getElem h1, List.getD_eq_getElem?_getD, List.getElem?_eq_getElem (by simpa using h2)] at h3
                  rw [List.getElem_map]
                  exact h3⟩
                have HAT6 : Aside0 (AtBlk w3 b (atQ l s (k + 1))) := ⟨by rw [← HEQ.out]; exact HATC.out⟩
                clear HCU HEQ hj8
                go_wp2
                go_roundg (n - (k + 1))
                case measure => omega
                case rel => exact ⟨k + 1, by omega, by omega, by go_num, HAT6, HB6⟩
          · have hs1 : hsb = false := by
              cases hsb with
              | false => rfl
              | true => exact absurd (HDZ.out.mpr rfl) hz
            have HAS3 : Aside0 (atQ l s (k + 1) = g) := ⟨by rw [HAS2.out, hs1, if_neg Bool.false_ne_true]⟩
            have hdb : ((dn : Int) != 0) = true := by rw [bne_iff_ne]; omega
            clear HAS2 HDZ hz hs1
            go_wp2
            go_roundg (n - (k + 1))
            case measure => omega
            case rel => exact ⟨k + 1, by omega, by omega, by go_num, ⟨by rw [HAS3.out]; exact HAT4.out.drew⟩, ⟨below_drew HB4.out⟩⟩
        · have hkz : ¬ (k : Int) < (n : Int) := by omega
          have hkn2 : k = n := by omega
          subst hkn2
          generalize atQ l s k = g at HAT HLG HJ
          clear hgg hkn
          go_upto_region 20 with fail
          have HR0 : Aside0 ((Kd.int .i64).R 3 w2 W.heap.size (fun x => x ≠ b) (.slice none 0 0) []) := ⟨Kd.R_nil _ _ _ _ _⟩
          go_loopg [12, 13, 14, 15, 16] 8 (fun g4 v12 v13 v14 _ _ w4 => ∃ (i : Nat) (vo : Value), i ≤ 8 ∧ 8 - i ≤ g4 ∧ v14 = .int .i64 (i : Int) ∧ v13 = .int .i64 (((outQ g s i).1 : Nat) : Int) ∧ vo = v12 ∧ Aside0 ((Kd.int .i64).R 3 w4 W.heap.size (fun x => x ≠ b) vo ((outQ g s i).2.map fun p : Nat => (p : Int))) ∧ Aside0 (AtBlk w4 b g) ∧ Aside0 (Below W.heap.size W w4))
          case atStart => exact ⟨0, _, by decide, by decide, rfl, by rw [outQ]; rfl, rfl, ⟨by rw [outQ]; exact HR0.out⟩, HAT, HB⟩
          case round =>
            clear HAT HB HR0 hkz
            obtain ⟨i, vo, hi, hgg, rfl, rfl, hvo, HV, HAT, HB⟩ := hrel
            rename World => w4
            subst hvo
            by_cases hi8 : i < 8
            · have hiz : (i : Int) < 8 := by omega
              go_upto_region 24 with fail
              go_loopg [15, 16] 8 (fun g5 v15 v16 w5 => ∃ (k2 : Nat), k2 ≤ 8 ∧ 8 - k2 ≤ g5 ∧ v16 = .int .i64 (k2 : Int) ∧ v15 = .int .i64 ((partQ g s i k2 : Nat) : Int) ∧ Aside0 (Below w4.heap.size w4 w5))
              case atStart => exact ⟨0, by decide, by decide, rfl, by rw [partQ]; rfl, ⟨Below.refl _ _⟩⟩
              case round =>
                obtain ⟨k2, hk2, hg5, rfl, rfl, HB5⟩ := hrel
                rename World => w5
                by_cases hk8 : k2 < 8
                · have hkz : (k2 : Int) < 8 := by omega
                  have HAT5 := Aside0.mk (HAT.out.below HB5.out)
                  have ck := HAT5.out.cell (i := k2) (by have := HLG.out; omega)
                  have ci := HAT5.out.cell (i := i) (by have := HLG.out; omega)
                  have HIQ : Aside0 (inQ g s i k2 = (decide (g.getD k2 0 = g.getD i 0) && s.testBit k2)) := ⟨rfl⟩
                  have HPQ : Aside0 (partQ g s i (k2 + 1) = if inQ g s i k2 = true then partQ g s i k2 + 2 ^ k2 else partQ g s i k2) := ⟨by rw [partQ]⟩
                  have hplt := partQ_lt g s i k2
                  have hpk8 : 2 ^ k2 < 256 := two_256 hk8
                  have hwk := wrap_two hk8
                  have hwk2 := wrap64_two hk8
                  have HB6 : Aside0 (Below w4.heap.size w4 w5.drew) := ⟨below_drew HB5.out⟩
                  generalize g.getD k2 0 = gk2 at ck HIQ
                  generalize g.getD i 0 = gi at ci HIQ
                  by_cases he : gk2 = gi
                  · subst he
                    cases hbit : s.testBit k2 with
                    | true =>
                      have hsc : (((s : Int) / 2 ^ k2).tmod 2 == 1) = true := (shr_cond s k2).trans hbit
                      have HPN : Aside0 (partQ g s i (k2 + 1) = partQ g s i k2 + 2 ^ k2) := ⟨by rw [HPQ.out, HIQ.out, hbit, decide_eq_true rfl]; rfl⟩
                      have hsum : wrap64 (((partQ g s i k2 : Nat) : Int) + 2 ^ k2) = ((partQ g s i (k2 + 1) : Nat) : Int) := by
                        rw [HPN.out, two_cast]
                        exact sum_wrap hplt hpk8
                      clear HIQ HPQ hbit
                      go_upto_region 26 with fail
                      refine wp_region_noPanic ?_
                      refine wp_region_held_drew (S := fun w' => w'.cell? ⟨b, k2, none⟩ = some (.int .i64 (gk2 : Int)) ∧ w'.cell? ⟨b, i, none⟩ = some (.int .i64 (gk2 : Int))) (by kernel_rfl) (⟨ck, ci⟩) (fun hHeld => ?_)
                      refine H_on 0 76 ?vx0 rfl rfl (by kernel_rfl) (by kernel_rfl) (by kernel_rfl) (by rfl) ?hx0 hHeld ?rx0
                      case hx0 => (intro w hSw; obtain ⟨s0, s1⟩ := hSw; go_simp <;> with_reducible rfl)
                      simp only [Act.put, List.setIfInBounds_toArray, List.set_cons_zero, List.set_cons_succ]
                      refine H_on 1 77 ?vx1 rfl rfl (by kernel_rfl) (by kernel_rfl) (by kernel_rfl) (by rfl) ?hx1 hHeld ?rx1
                      case hx1 => (intro w hSw; obtain ⟨s0, s1⟩ := hSw; go_simp <;> with_reducible rfl)
                      simp only [Act.put, List.setIfInBounds_toArray, List.set_cons_zero, List.set_cons_succ]
                      refine H_on 2 78 ?vx2 rfl rfl (by kernel_rfl) (by kernel_rfl) (by kernel_rfl) (by rfl) ?hx2 hHeld ?rx2
                      case hx2 => (intro w hSw; obtain ⟨s0, s1⟩ := hSw; go_simp <;> with_reducible rfl)
                      simp only [Act.put, List.setIfInBounds_toArray, List.set_cons_zero, List.set_cons_succ]
                      refine H_on 3 79 ?vx3 rfl rfl (by kernel_rfl) (by kernel_rfl) (by kernel_rfl) (by rfl) ?hx3 hHeld ?rx3
                      case hx3 => (intro w hSw; obtain ⟨s0, s1⟩ := hSw; go_simp <;> with_reducible rfl)
                      simp only [Act.put, List.setIfInBounds_toArray, List.set_cons_zero, List.set_cons_succ]
                      refine H_on 4 80 ?vx4 rfl rfl (by kernel_rfl) (by kernel_rfl) (by kernel_rfl) (by rfl) ?hx4 hHeld ?rx4
                      case hx4 => (intro w hSw; obtain ⟨s0, s1⟩ := hSw; go_simp <;> with_reducible rfl)
                      simp only [Act.put, List.setIfInBounds_toArray, List.set_cons_zero, List.set_cons_succ]
                      refine H_on 5 81 ?vx5 rfl rfl (by kernel_rfl) (by kernel_rfl) (by kernel_rfl) (by rfl) ?hx5 hHeld ?rx5
                      case hx5 => (intro w hSw; obtain ⟨s0, s1⟩ := hSw; go_simp <;> with_reducible rfl)
                      simp only [Act.put, List.setIfInBounds_toArray, List.set_cons_zero, List.set_cons_succ]
                      refine H_on 6 82 ?vx6 rfl rfl (by kernel_rfl) (by kernel_rfl) (by kernel_rfl) (by rfl) ?hx6 hHeld ?rx6
                      case hx6 => (intro w hSw; obtain ⟨s0, s1⟩ := hSw; go_simp <;> with_reducible rfl)
                      simp only [Act.put, List.setIfInBounds_toArray, List.set_cons_zero, List.set_cons_succ]
                      refine H_on 7 83 ?vx7 rfl rfl (by kernel_rfl) (by kernel_rfl) (by kernel_rfl) (by rfl) ?hx7 hHeld ?rx7
                      case hx7 => (intro w hSw; obtain ⟨s0, s1⟩ := hSw; go_simp <;> with_reducible rfl)
                      simp only [Act.put, List.setIfInBounds_toArray, List.set_cons_zero, List.set_cons_succ]
                      refine H_on 8 84 ?vx8 rfl rfl (by kernel_rfl) (by kernel_rfl) (by kernel_rfl) (by rfl) ?hx8 hHeld ?rx8
                      case hx8 => (intro w hSw; obtain ⟨s0, s1⟩ := hSw; go_simp <;> with_reducible rfl)
                      simp only [Act.put, List.setIfInBounds_toArray, List.set_cons_zero, List.set_cons_succ]
                      refine H_on 9 85 ?vx9 rfl rfl (by kernel_rfl) (by kernel_rfl) (by kernel_rfl) (by rfl) ?hx9 hHeld ?rx9
                      case hx9 => (intro w hSw; obtain ⟨s0, s1⟩ := hSw; go_simp <;> with_reducible rfl)
                      simp only [Act.put, List.setIfInBounds_toArray, List.set_cons_zero, List.set_cons_succ]
                      refine H_on 10 86 ?vx10 rfl rfl (by kernel_rfl) (by kernel_rfl) (by kernel_rfl) (by rfl) ?hx10 hHeld ?rx10
                      case hx10 => (intro w hSw; obtain ⟨s0, s1⟩ := hSw; go_simp <;> with_reducible rfl)
                      simp only [Act.put, List.setIfInBounds_toArray, List.set_cons_zero, List.set_cons_succ]
                      refine H_on 11 87 ?vx11 rfl rfl (by kernel_rfl) (by kernel_rfl) (by kernel_rfl) (by rfl) ?hx11 hHeld ?rx11
                      case hx11 => (intro w hSw; obtain ⟨s0, s1⟩ := hSw; go_simp <;> with_reducible rfl)
                      simp only [Act.put, List.setIfInBounds_toArray, List.set_cons_zero, List.set_cons_succ]
                      refine H_on 12 88 ?vx12 rfl rfl (by kernel_rfl) (by kernel_rfl) (by kernel_rfl) (by rfl) ?hx12 hHeld ?rx12
                      case hx12 => (intro w hSw; obtain ⟨s0, s1⟩ := hSw; go_simp <;> with_reducible rfl)
                      simp only [Act.put, List.setIfInBounds_toArray, List.set_cons_zero, List.set_cons_succ]
                      refine H_on 13 89 ?vx13 rfl rfl (by kernel_rfl) (by kernel_rfl) (by kernel_rfl) (by rfl) ?hx13 hHeld ?rx13
                      case hx13 => (intro w hSw; obtain ⟨s0, s1⟩ := hSw; go_simp <;> with_reducible rfl)
                      simp only [Act.put, List.setIfInBounds_toArray, List.set_cons_zero, List.set_cons_succ]
                      refine wpAnyH_done (by kernel_rfl) ?_ _
                      refine NoPanic.normal ?_
                      clear hHeld
                      go_wp2
                      go_roundg (8 - (k2 + 1))
                      case measure => omega
                      case rel => exact ⟨k2 + 1, by omega, by omega, by go_num, by rw [hsum], HB6⟩
                    | false =>
                      have hsc : (((s : Int) / 2 ^ k2).tmod 2 == 1) = false := (shr_cond s k2).trans hbit
                      have HPN : Aside0 (partQ g s i (k2 + 1) = partQ g s i k2) := ⟨by rw [HPQ.out, HIQ.out, hbit, Bool.and_false, if_neg Bool.false_ne_true]⟩
                      clear HIQ HPQ hbit
                      go_upto_region 26 with fail
                      refine wp_region_noPanic ?_
                      refine wp_region_held_drew (S := fun w' => w'.cell? ⟨b, k2, none⟩ = some (.int .i64 (gk2 : Int)) ∧ w'.cell? ⟨b, i, none⟩ = some (.int .i64 (gk2 : Int))) (by kernel_rfl) (⟨ck, ci⟩) (fun hHeld => ?_)
                      refine H_on 0 76 ?vz0 rfl rfl (by kernel_rfl) (by kernel_rfl) (by kernel_rfl) (by rfl) ?hz0 hHeld ?rz0
                      case hz0 => (intro w hSw; obtain ⟨s0, s1⟩ := hSw; go_simp <;> with_reducible rfl)
                      simp only [Act.put, List.setIfInBounds_toArray, List.set_cons_zero, List.set_cons_succ]
                      refine H_on 1 77 ?vz1 rfl rfl (by kernel_rfl) (by kernel_rfl) (by kernel_rfl) (by rfl) ?hz1 hHeld ?rz1
                      case hz1 => (intro w hSw; obtain ⟨s0, s1⟩ := hSw; go_simp <;> with_reducible rfl)
                      simp only [Act.put, List.setIfInBounds_toArray, List.set_cons_zero, List.set_cons_succ]
                      refine H_on 2 78 ?vz2 rfl rfl (by kernel_rfl) (by kernel_rfl) (by kernel_rfl) (by rfl) ?hz2 hHeld ?rz2
                      case hz2 => (intro w hSw; obtain ⟨s0, s1⟩ := hSw; go_simp <;> with_reducible rfl)
                      simp only [Act.put, List.setIfInBounds_toArray, List.set_cons_zero, List.set_cons_succ]
                      refine H_on 3 79 ?vz3 rfl rfl (by kernel_rfl) (by kernel_rfl) (by kernel_rfl) (by rfl) ?hz3 hHeld ?rz3
                      case hz3 => (intro w hSw; obtain ⟨s0, s1⟩ := hSw; go_simp <;> with_reducible rfl)
                      simp only [Act.put, List.setIfInBounds_toArray, List.set_cons_zero, List.set_cons_succ]
                      refine H_on 4 80 ?vz4 rfl rfl (by kernel_rfl) (by kernel_rfl) (by kernel_rfl) (by rfl) ?hz4 hHeld ?rz4
                      case hz4 => (intro w hSw; obtain ⟨s0, s1⟩ := hSw; go_simp <;> with_reducible rfl)
                      simp only [Act.put, List.setIfInBounds_toArray, List.set_cons_zero, List.set_cons_succ]
                      refine H_on 5 81 ?vz5 rfl rfl (by kernel_rfl) (by kernel_rfl) (by kernel_rfl) (by rfl) ?hz5 hHeld ?rz5
                      case hz5 => (intro w hSw; obtain ⟨s0, s1⟩ := hSw; go_simp <;> with_reducible rfl)
                      simp only [Act.put, List.setIfInBounds_toArray, List.set_cons_zero, List.set_cons_succ]
                      refine H_on 6 82 ?vz6 rfl rfl (by kernel_rfl) (by kernel_rfl) (by kernel_rfl) (by rfl) ?hz6 hHeld ?rz6
                      case hz6 => (intro w hSw; obtain ⟨s0, s1⟩ := hSw; go_simp <;> with_reducible rfl)
                      simp only [Act.put, List.setIfInBounds_toArray, List.set_cons_zero, List.set_cons_succ]
                      refine H_on 7 83 ?vz7 rfl rfl (by kernel_rfl) (by kernel_rfl) (by kernel_rfl) (by rfl) ?hz7 hHeld ?rz7
                      case hz7 => (intro w hSw; obtain ⟨s0, s1⟩ := hSw; go_simp <;> with_reducible rfl)
                      simp only [Act.put, List.setIfInBounds_toArray, List.set_cons_zero, List.set_cons_succ]
                      refine H_on 8 84 ?vz8 rfl rfl (by kernel_rfl) (by kernel_rfl) (by kernel_rfl) (by rfl) ?hz8 hHeld ?rz8
                      case hz8 => (intro w hSw; obtain ⟨s0, s1⟩ := hSw; go_simp <;> with_reducible rfl)
                      simp only [Act.put, List.setIfInBounds_toArray, List.set_cons_zero, List.set_cons_succ]
                      refine H_on 9 85 ?vz9 rfl rfl (by kernel_rfl) (by kernel_rfl) (by kernel_rfl) (by rfl) ?hz9 hHeld ?rz9
                      case hz9 => (intro w hSw; obtain ⟨s0, s1⟩ := hSw; go_simp <;> with_reducible rfl)
                      simp only [Act.put, List.setIfInBounds_toArray, List.set_cons_zero, List.set_cons_succ]
                      refine H_on 10 86 ?vz10 rfl rfl (by kernel_rfl) (by kernel_rfl) (by kernel_rfl) (by rfl) ?hz10 hHeld ?rz10
                      case hz10 => (intro w hSw; obtain ⟨s0, s1⟩ := hSw; go_simp <;> with_reducible rfl)
                      simp only [Act.put, List.setIfInBounds_toArray, List.set_cons_zero, List.set_cons_succ]
                      refine H_on 11 87 ?vz11 rfl rfl (by kernel_rfl) (by kernel_rfl) (by kernel_rfl) (by rfl) ?hz11 hHeld ?rz11
                      case hz11 => (intro w hSw; obtain ⟨s0, s1⟩ := hSw; go_simp <;> with_reducible rfl)
                      simp only [Act.put, List.setIfInBounds_toArray, List.set_cons_zero, List.set_cons_succ]
                      refine H_on 12 88 ?vz12 rfl rfl (by kernel_rfl) (by kernel_rfl) (by kernel_rfl) (by rfl) ?hz12 hHeld ?rz12
                      case hz12 => (intro w hSw; obtain ⟨s0, s1⟩ := hSw; go_simp <;> with_reducible rfl)
                      simp only [Act.put, List.setIfInBounds_toArray, List.set_cons_zero, List.set_cons_succ]
                      refine H_on 13 89 ?vz13 rfl rfl (by kernel_rfl) (by kernel_rfl) (by kernel_rfl) (by rfl) ?hz13 hHeld ?rz13
                      case hz13 => (intro w hSw; obtain ⟨s0, s1⟩ := hSw; go_simp <;> with_reducible rfl)
                      simp only [Act.put, List.setIfInBounds_toArray, List.set_cons_zero, List.set_cons_succ]
                      refine wpAnyH_done (by kernel_rfl) ?_ _
                      refine NoPanic.normal ?_
                      clear hHeld
                      go_wp2
                      go_roundg (8 - (k2 + 1))
                      case measure => omega
                      case rel => exact ⟨k2 + 1, by omega, by omega, by go_num, by rw [HPN.out], HB6⟩
                  · have hez : ((gk2 : Int) == (gi : Int)) = false := by rw [beq_eq_false_iff_ne]; omega
                    have HPN : Aside0 (partQ g s i (k2 + 1) = partQ g s i k2) := ⟨by rw [HPQ.out, HIQ.out, decide_eq_false he, Bool.false_and, if_neg Bool.false_ne_true]⟩
                    clear he HIQ HPQ
                    go_upto_region 26 with fail
                    refine wp_region_noPanic ?_
                    refine wp_region_held_drew (S := fun w' => w'.cell? ⟨b, k2, none⟩ = some (.int .i64 (gk2 : Int)) ∧ w'.cell? ⟨b, i, none⟩ = some (.int .i64 (gi : Int))) (by kernel_rfl) (⟨ck, ci⟩) (fun hHeld => ?_)
                    refine H_on 0 76 ?vy0 rfl rfl (by kernel_rfl) (by kernel_rfl) (by kernel_rfl) (by rfl) ?hy0 hHeld ?ry0
                    case hy0 => (intro w hSw; obtain ⟨s0, s1⟩ := hSw; go_simp <;> with_reducible rfl)
                    simp only [Act.put, List.setIfInBounds_toArray, List.set_cons_zero, List.set_cons_succ]
                    refine H_on 1 77 ?vy1 rfl rfl (by kernel_rfl) (by kernel_rfl) (by kernel_rfl) (by rfl) ?hy1 hHeld ?ry1
                    case hy1 => (intro w hSw; obtain ⟨s0, s1⟩ := hSw; go_simp <;> with_reducible rfl)
                    simp only [Act.put, List.setIfInBounds_toArray, List.set_cons_zero, List.set_cons_succ]
                    refine H_on 2 78 ?vy2 rfl rfl (by kernel_rfl) (by kernel_rfl) (by kernel_rfl) (by rfl) ?hy2 hHeld ?ry2
                    case hy2 => (intro w hSw; obtain ⟨s0, s1⟩ := hSw; go_simp <;> with_reducible rfl)
                    simp only [Act.put, List.setIfInBounds_toArray, List.set_cons_zero, List.set_cons_succ]
                    refine H_on 3 79 ?vy3 rfl rfl (by kernel_rfl) (by kernel_rfl) (by kernel_rfl) (by rfl) ?hy3 hHeld ?ry3
                    case hy3 => (intro w hSw; obtain ⟨s0, s1⟩ := hSw; go_simp <;> with_reducible rfl)
                    simp only [Act.put, List.setIfInBounds_toArray, List.set_cons_zero, List.set_cons_succ]
                    refine H_on 4 80 ?vy4 rfl rfl (by kernel_rfl) (by kernel_rfl) (by kernel_rfl) (by rfl) ?hy4 hHeld ?ry4
                    case hy4 => (intro w hSw; obtain ⟨s0, s1⟩ := hSw; go_simp <;> with_reducible rfl)
                    simp only [Act.put, List.setIfInBounds_toArray, List.set_cons_zero, List.set_cons_succ]
                    refine H_on 5 81 ?vy5 rfl rfl (by kernel_rfl) (by kernel_rfl) (by kernel_rfl) (by rfl) ?hy5 hHeld ?ry5
                    case hy5 => (intro w hSw; obtain ⟨s0, s1⟩ := hSw; go_simp <;> with_reducible rfl)
                    simp only [Act.put, List.setIfInBounds_toArray, List.set_cons_zero, List.set_cons_succ]
                    refine H_on 6 82 ?vy6 rfl rfl (by kernel_rfl) (by kernel_rfl) (by kernel_rfl) (by rfl) ?hy6 hHeld ?ry6
                    case hy6 => (intro w hSw; obtain ⟨s0, s1⟩ := hSw; go_simp <;> with_reducible rfl)
                    simp only [Act.put, List.setIfInBounds_toArray, List.set_cons_zero, List.set_cons_succ]
                    refine H_on 7 83 ?vy7 rfl rfl (by kernel_rfl) (by kernel_rfl) (by kernel_rfl) (by rfl) ?hy7 hHeld ?ry7
                    case hy7 => (intro w hSw; obtain ⟨s0, s1⟩ := hSw; go_simp <;> with_reducible rfl)
                    simp only [Act.put, List.setIfInBounds_toArray, List.set_cons_zero, List.set_cons_succ]
                    refine H_off 8 84 rfl rfl (by kernel_rfl) (by kernel_rfl) (by kernel_rfl) (by rfl) hHeld ?_
                    simp only [Act.put, List.setIfInBounds_toArray, List.set_cons_zero, List.set_cons_succ]
                    refine H_off 9 85 rfl rfl (by kernel_rfl) (by kernel_rfl) (by kernel_rfl) (by rfl) hHeld ?_
                    simp only [Act.put, List.setIfInBounds_toArray, List.set_cons_zero, List.set_cons_succ]
                    refine H_off 10 86 rfl rfl (by kernel_rfl) (by kernel_rfl) (by kernel_rfl) (by rfl) hHeld ?_
                    simp only [Act.put, List.setIfInBounds_toArray, List.set_cons_zero, List.set_cons_succ]
                    refine H_off 11 87 rfl rfl (by kernel_rfl) (by kernel_rfl) (by kernel_rfl) (by rfl) hHeld ?_
                    simp only [Act.put, List.setIfInBounds_toArray, List.set_cons_zero, List.set_cons_succ]
                    refine H_off 12 88 rfl rfl (by kernel_rfl) (by kernel_rfl) (by kernel_rfl) (by rfl) hHeld ?_
                    simp only [Act.put, List.setIfInBounds_toArray, List.set_cons_zero, List.set_cons_succ]
                    refine H_on 13 89 ?vy13 rfl rfl (by kernel_rfl) (by kernel_rfl) (by kernel_rfl) (by rfl) ?hy13 hHeld ?ry13
                    case hy13 => (intro w hSw; obtain ⟨s0, s1⟩ := hSw; go_simp <;> with_reducible rfl)
                    simp only [Act.put, List.setIfInBounds_toArray, List.set_cons_zero, List.set_cons_succ]
                    refine wpAnyH_done (by kernel_rfl) ?_ _
                    refine NoPanic.normal ?_
                    clear hHeld
                    go_wp2
                    go_roundg (8 - (k2 + 1))
                    case measure => omega
                    case rel => exact ⟨k2 + 1, by omega, by omega, by go_num, by rw [HPN.out], HB6⟩
                · have hkz : ¬ (k2 : Int) < 8 := by omega
                  have hk9 : k2 = 8 := by omega
                  subst hk9
                  have HOQ : Aside0 (outQ g s (i + 1) = if (s.testBit i && decide ((outQ g s i).1 &&& partQ g s i 8 = 0)) = true then ((outQ g s i).1 ||| partQ g s i 8, (outQ g s i).2 ++ [partQ g s i 8]) else outQ g s i) := ⟨by rw [outQ]⟩
                  have hp8 : partQ g s i 8 < 256 := partQ_lt g s i 8
                  have hm8 : (outQ g s i).1 < 256 := lt_of_bits (k := 8) fun j hj => (((out_ok (g := g) hs i hi).met j).mp hj).1
                  have HAT5 := Aside0.mk (HAT.out.below HB5.out)
                  have HV5 := Aside0.mk (Kd.R_below HV.out HB5.out)
                  have HBW := Aside0.mk (below_then HB.out HB.out.size HB5.out)
                  have hand := and_cast hm8 hp8
                  have hor := low_or hm8 hp8
                  have hl8 : (outQ g s i).2.length ≤ 8 := out_len g s i hi
                  generalize outQ g s i = r at HOQ hm8 hand hor HV5 hl8 ⊢
                  generalize partQ g s i 8 = p at HOQ hp8 hand hor ⊢
                  obtain ⟨m, o⟩ := r
                  dsimp only at HOQ hm8 hand hor HV5 hl8 ⊢
                  clear HV HAT HB HB5 hk2
                  cases hbit : s.testBit i with
                  | true =>
                    have hsc : (((s : Int) / 2 ^ i).tmod 2 == 1) = true := (shr_cond s i).trans hbit
                    by_cases h0 : m &&& p = 0
                    · have hz : (((m &&& p : Nat) : Int) == 0) = true := by rw [beq_iff_eq]; omega
                      have HON : Aside0 (outQ g s (i + 1) = (m ||| p, o ++ [p])) := ⟨by rw [HOQ.out, hbit, decide_eq_true h0]; rfl⟩
                      clear HOQ hbit h0
                      generalize ((m &&& p : Nat) : Int) = mp at hand hz
                      obtain ⟨ol, hol⟩ : ∃ ol, (o.map fun p : Nat => (p : Int)).length = ol := ⟨_, rfl⟩
                      have hol8 : ol ≤ 8 := by rw [← hol, List.length_map]; exact hl8
                      obtain ⟨A5, c5, hv5, _, _⟩ := Kd.R_reads HV5.out
                      rw [hol] at hv5
                      subst hv5
                      have HOL := Aside0.mk hol
                      have HRO : Aside0 (∀ k, (Value.slice A5 ol c5).ownBlock = some k → k ≠ b) := ⟨HV5.out.1⟩
                      clear hol hl8
                      go_wp2_with (at_builtin; go_must (refine Kd.R_append (Kd.int .i64) (w0 := W) W.heap.size rfl (.tmp 108) (.tmp 110) 32 3 (.int .i64 0) 8 rfl Tryd.underlying32 info3 rfl (by decide) (by decide) (.slice A5 ol c5) (o.map fun p : Nat => (p : Int)) (p : Int) [.int .i64 (p : Int)] (fun x => x ≠ b) (fun _ => False) rfl rfl rfl (fun _ hk => hk.elim) (fun k hk => by have := blk_lt HAT5.out; omega) HV5.out HBW.out HBW.out.size (by rw [HOL.out]; omega) ?_; intro v6 w6 ho hb6 hg6 _; have HO6 := Aside0.mk ho; have HB6 := Aside0.mk hb6; have HG6 := Aside0.mk hg6; clear ho hb6 hg6))
                      have HAT6 : Aside0 (AtBlk w6 b g) := ⟨YtdbbcngmnpejnaaDoorW.PrintWords.blk_grown HAT5.out HG6.out (fun e => HRO.out b e.symm rfl)⟩
                      go_roundg (8 - (i + 1))
                      case measure => omega
                      case rel => exact ⟨i + 1, _, by omega, by omega, by go_num, by rw [HON.out], rfl, ⟨by rw [HON.out, List.map_append]; exact HO6.out⟩, HAT6, HB6⟩
                    · have hz : (((m &&& p : Nat) : Int) == 0) = false := by rw [beq_eq_false_iff_ne]; omega
                      have HON : Aside0 (outQ g s (i + 1) = (m, o)) := ⟨by rw [HOQ.out, decide_eq_false h0, Bool.and_false, if_neg Bool.false_ne_true]⟩
                      clear HOQ hbit h0
                      generalize ((m &&& p : Nat) : Int) = mp at hand hz
                      go_wp2
                      go_roundg (8 - (i + 1))
                      case measure => omega
                      case rel => exact ⟨i + 1, _, by omega, by omega, by go_num, by rw [HON.out], rfl, ⟨by rw [HON.out]; exact HV5.out⟩, HAT5, HBW⟩
                  | false =>
                    have hsc : (((s : Int) / 2 ^ i).tmod 2 == 1) = false := (shr_cond s i).trans hbit
                    have HON : Aside0 (outQ g s (i + 1) = (m, o)) := ⟨by rw [HOQ.out, hbit, Bool.false_and, if_neg Bool.false_ne_true]⟩
                    clear HOQ hbit
                    go_wp2
                    go_roundg (8 - (i + 1))
                    case measure => omega
                    case rel => exact ⟨i + 1, _, by omega, by omega, by go_num, by rw [HON.out], rfl, ⟨by rw [HON.out]; exact HV5.out⟩, HAT5, HBW⟩
            · have hiz : ¬ (i : Int) < 8 := by omega
              have hi9 : i = 8 := by omega
              subst hi9
              go_wp2
              go_ret
              exact ⟨_, rfl, by rw [← HJ.out]; exact Kd.R_mono HV.out (fun _ _ => trivial), HB.out⟩
end Go.Proofs.YtdbbcngmnpejnaaDoor.A

/- What is read is a tree's text, and a good tree's text is read as the tree, plain. -/
namespace Go.Proofs.YtdbbcngmnpejnaaDoor.A
open Go

theorem join_one (sep x : List UInt8) : Lib.join [x] sep = x := by simp [Lib.join]
theorem join_cons (sep x y : List UInt8) (ys : List (List UInt8)) : Lib.join (x :: y :: ys) sep = x ++ sep ++ Lib.join (y :: ys) sep := by simp [Lib.join, List.intercalate_cons_cons]
theorem u8_eq {c : UInt8} {n : Nat} (h : c.toNat = n) : c = UInt8.ofNat n := by rw [← h]; exact (UInt8.ofNat_toNat).symm
theorem text_leaf (i : Nat) : (BT.leaf i).text = [UInt8.ofNat (48 + i)] := by rw [BT.text]
theorem text_node (ks : List BT) : (BT.node ks).text = 40 :: (Lib.join (ks.map BT.text) [44] ++ [41]) := by rw [BT.text, texts_map]
/-- What is read is the tree's text. -/
theorem read_sound : ∀ f, (∀ L t L', readP f L = some (t, L') → L = t.text ++ L') ∧ ∀ l all L t L', loopP f l all L = some (t, L') → ∃ r, r ≠ [] ∧ t = .node (l ++ r) ∧ L = Lib.join (r.map BT.text) [44] ++ 41 :: L'
  | 0 => ⟨fun L t L' h => (by rw [readP] at h; cases h), fun l all L t L' h => (by rw [loopP] at h; cases h)⟩
  | f + 1 => by
    obtain ⟨ih1, ih2⟩ := read_sound f
    refine ⟨fun L t L' h => ?_, fun l all L t L' h => ?_⟩
    · cases L with
      | nil => rw [readP] at h; cases h
      | cons c L =>
        rw [readP] at h
        split at h
        · rename_i hc
          cases h
          rw [text_leaf, show 48 + (c.toNat - 48) = c.toNat by omega, UInt8.ofNat_toNat]
          rfl
        · split at h
          · rename_i hc
            obtain ⟨r, _, ht, hL⟩ := ih2 _ _ _ _ _ h
            rw [List.nil_append] at ht
            rw [ht, text_node, u8_eq hc, hL]
            simp
          · cases h
    · rw [loopP] at h
      cases hp : readP f L with
      | none => rw [hp] at h; cases h
      | some q =>
        obtain ⟨u, L1⟩ := q
        rw [hp] at h
        dsimp only at h
        have hL := ih1 _ _ _ hp
        split at h
        · cases L1 with
          | nil => cases h
          | cons c L2 =>
            dsimp only at h
            split at h
            · rename_i hc
              split at h
              · cases h
                exact ⟨[u], by simp, rfl, by rw [hL, u8_eq hc, List.map_cons, List.map_nil, join_one]; rfl⟩
              · cases h
            · split at h
              · rename_i hc
                obtain ⟨r, hr, ht, hL2⟩ := ih2 _ _ _ _ _ h
                refine ⟨u :: r, by simp, by rw [ht, List.append_assoc]; rfl, ?_⟩
                cases r with
                | nil => exact absurd rfl hr
                | cons v r =>
                  rw [hL, hL2, u8_eq hc]
                  simp only [List.map_cons]
                  rw [join_cons, List.append_assoc, List.append_assoc]
                  rfl
              · cases h
        · cases h
/-- A good tree's text is read as the tree. -/
theorem read_complete (t : BT) : t.Good → ∀ f L, 2 * t.text.length < f → readP f (t.text ++ L) = some (t, L) := by
  refine BT.ind (P := fun t => t.Good → ∀ f L, 2 * t.text.length < f → readP f (t.text ++ L) = some (t, L)) (fun i hi f L hf => ?_) (fun ks ih hg f L hf => ?_) t
  · obtain ⟨f, rfl⟩ : ∃ f', f = f' + 1 := ⟨f - 1, by omega⟩
    rw [BT.Good] at hi
    rw [text_leaf, List.singleton_append, readP]
    have e : (UInt8.ofNat (48 + i)).toNat = 48 + i := UInt8.toNat_ofNat_of_lt' (by show 48 + i < 256; omega)
    rw [e, if_pos (by omega), show 48 + i - 48 = i by omega]
  · obtain ⟨f, rfl⟩ : ∃ f', f = f' + 1 := ⟨f - 1, by omega⟩
    obtain ⟨h2, hks, hpw⟩ := good_node.mp hg
    rw [text_node] at hf ⊢
    have hloop : ∀ (r l : List BT) (f : Nat), ks = l ++ r → r ≠ [] → 2 * (Lib.join (r.map BT.text) [44]).length + 1 < f → loopP f l (BT.sets l) (Lib.join (r.map BT.text) [44] ++ 41 :: L) = some (.node ks, L) := by
      intro r
      induction r with
      | nil => intro l f _ h; exact absurd rfl h
      | cons u r ihr =>
        intro l f hk _ hf
        obtain ⟨f, rfl⟩ : ∃ f', f = f' + 1 := ⟨f - 1, by omega⟩
        have hu : u ∈ ks := by rw [hk]; simp
        have hnext : nextOk l (BT.sets l) u = true := by
          rw [hk] at hpw
          have h3 := (List.pairwise_append.mp hpw).2.2
          unfold nextOk
          rw [Bool.and_eq_true, decide_eq_true_iff, Bool.or_eq_true, decide_eq_true_iff]
          refine ⟨?_, ?_⟩
          · refine disj_iff.mpr fun i hi => ?_
            cases e : (BT.sets l).testBit i with
            | false => rfl
            | true =>
              obtain ⟨k, hkl, hki⟩ := sets_bit.mp e
              rw [disj_iff.mp (h3 k hkl u List.mem_cons_self).1 i hki] at hi; cases hi
          · by_cases e : l = []
            · left; rw [e]; rfl
            · right
              rw [List.getLast?_eq_some_getLast e, Option.getD_some]
              exact (h3 _ (List.getLast_mem e) u List.mem_cons_self).2
        cases r with
        | nil =>
          rw [List.map_cons, List.map_nil, join_one] at hf ⊢
          rw [loopP, ih u hu (hks u hu) f (41 :: L) (by omega)]
          dsimp only
          have h41 : (41 : UInt8).toNat = 41 := rfl
          rw [if_pos hnext, if_pos h41, if_pos (by rw [← hk]; omega), ← hk]
        | cons v r =>
          rw [List.map_cons, List.map_cons, join_cons] at hf ⊢
          rw [List.length_append, List.length_append, List.length_singleton] at hf
          rw [loopP, List.append_assoc, List.append_assoc, ih u hu (hks u hu) f _ (by omega)]
          dsimp only [List.singleton_append]
          have h44 : ¬ ((44 : UInt8).toNat = 41) := by decide
          have h44' : (44 : UInt8).toNat = 44 := rfl
          rw [if_pos hnext, if_neg h44, if_pos h44']
          have hs : BT.sets l ||| u.set = BT.sets (l ++ [u]) := by rw [sets_append, BT.sets, BT.sets, Nat.or_zero]
          rw [hs]
          have := ihr (l ++ [u]) f (by rw [hk, List.append_assoc]; rfl) (by simp) (by rw [List.map_cons]; omega)
          rw [List.map_cons] at this
          exact this
    rw [List.cons_append, readP]
    have h40 : ¬ (48 ≤ (40 : UInt8).toNat ∧ (40 : UInt8).toNat ≤ 55) := by decide
    have h40' : (40 : UInt8).toNat = 40 := rfl
    rw [if_neg h40, if_pos h40', List.append_assoc]
    rw [List.length_cons, List.length_append, List.length_singleton] at hf
    have hne : ks ≠ [] := fun e => by rw [e] at h2; simp at h2
    have := hloop ks [] f rfl hne (by omega)
    rw [BT.sets] at this
    exact this
end Go.Proofs.YtdbbcngmnpejnaaDoor.A

/- Nodes of trees as they lie in memory, as the kit's print writes it. -/
namespace Go.Proofs.YtdbbcngmnpejnaaDoor.A
open Go.RowKit Go.Proofs.YtdbbcngmnpejnaaDoorW.PrintWords Go.Proofs.YtdbbcngmnpejnaaDoorW.PrintLast Go.Proofs.YtdbbcngmnpejnaaDoorW.PrintMore
section
attribute [local go_sem] max2_int min2_int max_two min_two max_three min_three max_four min_four   -- for this text's walks alone
set_option linter.unusedVariables false
set_option linter.unusedSimpArgs false
/-! #### struct type 85, nested in itself -/
structure S85 where
  f0 : Int
  f1 : (List S85)
def z85 : S85 := ⟨(0 : Int), ([] : List S85)⟩
def F85 (d : Kd S85) : Kd S85 := Kd.iso (Kd.pair (Kd.int .i64) (Kd.slice 85 d)) (fun x : S85 => (x.f0, x.f1))
theorem mono85 : Kd.Mono F85 := Kd.mono_iso _ (Kd.mono_pair (Kd.mono_const _) (Kd.mono_slice 85 Kd.mono_id))
theorem sub85 : Kd.Sub F85 [85] := Kd.sub_iso _ (Kd.sub_pair (Kd.sub_const _ (by decide)) (Kd.sub_slice 85 (by decide) Kd.sub_id))
theorem sz85 : ∀ n, (Kd.upto F85 2 [85] n).sz = 2 := Kd.upto_sz (fun _ => rfl)
def k85 : Kd S85 := Kd.fix F85 2 [85] sz85 (Kd.upto_E sub85)
theorem k85_open {w : World} {x : S85} {cs : List Value} (h : k85.K w x cs) : ∃ A1 c1, cs = [.int .i64 x.f0, .slice A1 x.f1.length c1] ∧ x.f1.length ≤ c1 ∧ k85.C w A1 x.f1.length x.f1 := by
  obtain ⟨n, h⟩ := h
  cases n with
  | zero => exact h.elim
  | succ n =>
    obtain ⟨_, _, rfl, rfl, ⟨A1, c1, rfl, l1, g1⟩⟩ := h
    exact ⟨A1, c1, rfl, l1, Kd.fix_C g1⟩
theorem k85_openM {w : World} {base : Nat} {ok : Nat → Prop} {x : S85} {cs : List Value} (h : k85.M w base ok x cs) : ∃ v1, cs = [.int .i64 x.f0, v1] ∧ k85.R 85 w base ok v1 x.f1 := by
  obtain ⟨n, h⟩ := h
  cases n with
  | zero => exact h.elim
  | succ n =>
    obtain ⟨_, _, rfl, rfl, ⟨v1, rfl, g1⟩⟩ := h
    exact ⟨v1, rfl, Kd.fix_R g1⟩
theorem k85_mk (w : World) (x : S85) {A1 : Option Addr} {c1 : Nat} (l1 : x.f1.length ≤ c1) (g1 : k85.C w A1 x.f1.length x.f1) : k85.K w x [.int .i64 x.f0, .slice A1 x.f1.length c1] := by
  obtain ⟨n1, q1⟩ := Kd.fix_C_back mono85 g1
  have r1 := Kd.upto_C_le mono85 sz85 (show n1 ≤ n1 by omega) q1
  exact ⟨n1 + 1, ⟨[.int .i64 x.f0], [.slice A1 x.f1.length c1], rfl, rfl, ⟨A1, c1, rfl, l1, r1⟩⟩⟩
theorem k85_mkM (w : World) (base : Nat) (ok : Nat → Prop) (x : S85) {v1 : Value} (g1 : k85.R 85 w base ok v1 x.f1) : k85.M w base ok x [.int .i64 x.f0, v1] := by
  obtain ⟨n1, q1⟩ := Kd.fix_R_back mono85 g1
  have r1 := Kd.upto_R_le mono85 sz85 (show n1 ≤ n1 by omega) q1
  exact ⟨n1 + 1, ⟨[.int .i64 x.f0], [v1], rfl, rfl, ⟨v1, rfl, r1⟩⟩⟩
def rd_T85 (xs : List S85) (i : Int) : S85 := xs.getD i.toNat z85
theorem at_T85 {w : World} {A : Option Addr} {n : Nat} {xs : List S85} (h : Kd.C k85 w A n xs) (i : Int) (h0 : 0 ≤ i) (h1 : i < n) : ∃ ad A1 c1, A = some ad ∧ w.cell? (ad.add (i.toNat * 2)) = some (.int .i64 (rd_T85 xs i).f0) ∧ w.cell? ⟨(ad.add (i.toNat * 2)).block, (ad.add (i.toNat * 2)).off + 1, none⟩ = some (.slice A1 (rd_T85 xs i).f1.length c1) ∧ (rd_T85 xs i).f1.length ≤ c1 ∧ k85.C w A1 (rd_T85 xs i).f1.length (rd_T85 xs i).f1 := by
  obtain ⟨ad, c, e, _, hK, hc0⟩ := Kd.C_get h z85 i h0 h1
  have hc : ∀ j u, c[j]? = some u → w.cell? (ad.add (i.toNat * 2 + j)) = some u := hc0
  obtain ⟨A1, c1, rfl, l1, g1⟩ := k85_open hK
  exact ⟨ad, A1, c1, e, hc 0 _ rfl, by rw [← add_field _ _ 1 (by omega)]; exact hc 1 _ rfl, l1, g1⟩

theorem eqA44 (d : Nat) (w : World) (x0 y0 : Int) (x1 y1 : Int) (x2 y2 : Int) :
    (Op.equalIn (d + 2) 44 (.agg #[.int .i64 x0, .int .i64 x1, .int .i64 x2]) (.agg #[.int .i64 y0, .int .i64 y1, .int .i64 y2])).run Tryd.prog w = .ok (x0 == y0 && (x1 == y1 && (x2 == y2))) w := by
  refine eqA_of Tryd.underlying44 (by kernel_rfl) ?_
  refine eqf_cons (by rfl) (by go_simp; rfl) (by go_simp; rfl) (by go_simp) ?_
  refine eqf_cons (by rfl) (by go_simp; rfl) (by go_simp; rfl) (by go_simp) ?_
  exact eqf_last (by rfl) (by go_simp; rfl) (by go_simp; rfl) (by go_simp)
end
end Go.Proofs.YtdbbcngmnpejnaaDoor.A
namespace Go.Proofs.YtdbbcngmnpejnaaDoor.B
open Go.Proofs.YtdbbcngmnpejnaaDoor.A
theorem info44 : (Tryd.prog.info? 44).map (fun i => (i.zero, i.size, i.bytes)) = some (some (.agg #[(.int .i64 0), (.int .i64 0), (.int .i64 0)]), 3, 24) := by kernel_rfl
theorem info5 : (Tryd.prog.info? 5).map (fun i => (i.zero, i.size, i.bytes)) = some (some (.int .u8 0), 1, 1) := by kernel_rfl
theorem info85 : (Tryd.prog.info? 85).map (fun i => (i.zero, i.size, i.bytes)) = some (some (.agg #[(.int .i64 0), (.slice none 0 0)]), 2, 32) := by kernel_rfl
theorem info9 : (Tryd.prog.info? 9).map (fun i => (i.zero, i.size, i.bytes)) = some (some (.string ⟨#[]⟩), 1, 16) := by kernel_rfl
end Go.Proofs.YtdbbcngmnpejnaaDoor.B

/- The reference's least and size, as the kit's print writes them. -/
namespace Go.Proofs.YtdbbcngmnpejnaaDoor.B
open Go.Proofs.YtdbbcngmnpejnaaDoor.A
open Go.RowKit Go.Proofs.YtdbbcngmnpejnaaDoorW.PrintWords Go.Proofs.YtdbbcngmnpejnaaDoorW.PrintLast Go.Proofs.YtdbbcngmnpejnaaDoorW.PrintMore
section
attribute [local go_sem] max2_int min2_int max_two min_two max_three min_three max_four min_four   -- for this text's walks alone
set_option linter.unusedVariables false
set_option linter.unusedSimpArgs false
/-! ### drovewayref05_least: function 71 -/
def drovewayref05_least.l0 : Nat → Int → Int → Option (Int)
  | 0, _, _ => none
  | k + 1, x0, x3 => if 0 ≤ x3 then (if (Int.tmod (shr .i64 x0 x3) 2) = 0 then (drovewayref05_least.l0 k x0 (wrap64 (x3 + 1))) else (some x3)) else (none)
def drovewayref05_least.f (k : Nat) (a0 : Int) : Option (Int) := drovewayref05_least.l0 k a0 0
theorem drovewayref05_least.mono_l : ∀ k, (∀ y0 y1, LeO (drovewayref05_least.l0 k y0 y1) (drovewayref05_least.l0 (k + 1) y0 y1))
  | 0 => fun _ _ r h => by simp [drovewayref05_least.l0] at h
  | k + 1 => by
    have ih0 := drovewayref05_least.mono_l k
    · intro y0 y1
      unfold drovewayref05_least.l0
      repeat' first
      | (with_reducible exact ih0 _ _)
      | (with_reducible exact LeO.refl _)
      | (with_reducible exact LeO.none _)
      | (with_reducible refine LeO.ite ?_ ?_)
      | (with_reducible refine LeO.bind ?_ (fun _ => ?_))
      | exact ih0 _ _
      | exact LeO.none _
      | refine LeO.ite ?_ ?_
      | refine LeO.bind ?_ (fun _ => ?_)
theorem drovewayref05_least.mono : ∀ a0 k, LeO (drovewayref05_least.f k a0) (drovewayref05_least.f (k + 1) a0) := by
  intro a0 k
  have ih0 := drovewayref05_least.mono_l k
  unfold drovewayref05_least.f
  repeat' first
      | (with_reducible exact ih0 _ _)
      | (with_reducible exact LeO.refl _)
      | (with_reducible exact LeO.none _)
      | (with_reducible refine LeO.ite ?_ ?_)
      | (with_reducible refine LeO.bind ?_ (fun _ => ?_))
      | exact ih0 _ _
      | exact LeO.none _
      | refine LeO.ite ?_ ?_
      | refine LeO.bind ?_ (fun _ => ?_)
set_option maxHeartbeats 8000000 in
set_option maxRecDepth 100000 in
theorem drovewayref05_least.calls (k : Nat) (a0 : Int) (r : Int) (w : World) (h : drovewayref05_least.f k a0 = some r) :
    Calls Tryd.prog 71 #[.int .i64 a0] w fun e w' => e = .returned (.int .i64 r) ∧ Drawn0 w w' := by
  have H : (drovewayref05_least.l0 k a0 0) = some r := h
  clear h
  have H' := Aside0.mk H
  clear H
  go_enter Tryd.func71, Tryd.ntmps71
  go_wp2
  go_loopg [3] k (fun kq v3 w' => ∃ (x3_1 : Int), v3 = .int .i64 x3_1 ∧ Aside0 (drovewayref05_least.l0 kq a0 x3_1 = some r) ∧ Aside0 (kq ≤ k) ∧ Drawn0 w w')
  case atStart => exact ⟨(0), (by first | rfl | (simp; done) | (simp [*]; done)), H', ⟨Nat.le_refl _⟩, by repeat (first | exact Drawn0.refl _ | apply Drawn0.step)⟩
  case round =>
    clear H'
    obtain ⟨x3_1, rfl, HA, HK1, ⟨m1, rfl⟩⟩ := hrel
    cases gk with
    | zero => exact absurd HA.out (by simp [drovewayref05_least.l0])
    | succ k1 =>
      have H := HA.out
      clear HA
      simp only [drovewayref05_least.l0] at H
      by_cases c2 : 0 ≤ x3_1
      · rw [if_pos c2] at H
        have c2b0 := eq_true c2
        have c2b1 : decide (0 ≤ x3_1) = true := decide_eq_true c2
        clear c2
        obtain ⟨ji3, hji3⟩ : ∃ j_ : Int, (shr .i64 a0 x3_1) = j_ := ⟨_, rfl⟩
        replace H : (if (Int.tmod (ji3) 2) = 0 then (drovewayref05_least.l0 k1 a0 (wrap64 (x3_1 + 1))) else (some x3_1)) = some r := by first | (rw [hji3] at H; exact H) | (simp only [hji3] at H ⊢; exact H)
        have hji3_ : (a0 / 2 ^ min x3_1.toNat 64) = ji3 := hji3
        have hji3z : x3_1 ≤ 64 → (a0 / 2 ^ x3_1.toNat) = ji3 := shr_small hji3
        by_cases c4 : (Int.tmod (ji3) 2) = 0
        · rw [if_pos c4] at H
          have c4b0 : ((Int.tmod (ji3) 2) == 0) = true := beq_iff_eq.mpr c4
          have c4b1 : ((Int.tmod (ji3) 2) != 0) = false := bne_eq_false_iff_eq.mpr c4
          clear c4
          have H' := Aside0.mk H
          clear H
          go_wp2
          go_roundg k1
          case measure => have := HK1.out; omega
          case rel => exact ⟨(wrap64 (x3_1 + 1)), (by first | rfl | (simp; done) | (simp [*]; done)), H', ⟨by have := HK1.out; omega⟩, by repeat (first | exact Drawn0.refl _ | apply Drawn0.step)⟩
        · rw [if_neg c4] at H
          have c4b0 : ((Int.tmod (ji3) 2) == 0) = false := beq_eq_false_iff_ne.mpr c4
          have c4b1 : ((Int.tmod (ji3) 2) != 0) = true := bne_iff_ne.mpr c4
          obtain rfl := Option.some.inj H
          go_wp2
          go_ret
          exact ⟨by first | rfl | (simp; done) | (simp only [← hji3] <;> (first | rfl | simp)) | (simp [*]; done), by repeat (first | exact Drawn0.refl _ | apply Drawn0.step)⟩
      · rw [if_neg c2] at H
        exact absurd H (by simp)

/-! ### drovewayref05_size: function 49 -/
def drovewayref05_size.l0 : Nat → Int → Int → Option (Int)
  | 0, _, _ => none
  | k + 1, x0, x3 => if x0 > 0 then (drovewayref05_size.l0 k (wrap64 (Int.tdiv x0 2)) (wrap64 (x3 + (Int.tmod x0 2)))) else (some x3)
def drovewayref05_size.f (k : Nat) (a0 : Int) : Option (Int) := drovewayref05_size.l0 k a0 0
theorem drovewayref05_size.mono_l : ∀ k, (∀ y0 y1, LeO (drovewayref05_size.l0 k y0 y1) (drovewayref05_size.l0 (k + 1) y0 y1))
  | 0 => fun _ _ r h => by simp [drovewayref05_size.l0] at h
  | k + 1 => by
    have ih0 := drovewayref05_size.mono_l k
    · intro y0 y1
      unfold drovewayref05_size.l0
      repeat' first
      | (with_reducible exact ih0 _ _)
      | (with_reducible exact LeO.refl _)
      | (with_reducible exact LeO.none _)
      | (with_reducible refine LeO.ite ?_ ?_)
      | (with_reducible refine LeO.bind ?_ (fun _ => ?_))
      | exact ih0 _ _
      | exact LeO.none _
      | refine LeO.ite ?_ ?_
      | refine LeO.bind ?_ (fun _ => ?_)
theorem drovewayref05_size.mono : ∀ a0 k, LeO (drovewayref05_size.f k a0) (drovewayref05_size.f (k + 1) a0) := by
  intro a0 k
  have ih0 := drovewayref05_size.mono_l k
  unfold drovewayref05_size.f
  repeat' first
      | (with_reducible exact ih0 _ _)
      | (with_reducible exact LeO.refl _)
      | (with_reducible exact LeO.none _)
      | (with_reducible refine LeO.ite ?_ ?_)
      | (with_reducible refine LeO.bind ?_ (fun _ => ?_))
      | exact ih0 _ _
      | exact LeO.none _
      | refine LeO.ite ?_ ?_
      | refine LeO.bind ?_ (fun _ => ?_)
set_option maxHeartbeats 8000000 in
set_option maxRecDepth 100000 in
theorem drovewayref05_size.calls (k : Nat) (a0 : Int) (r : Int) (w : World) (h : drovewayref05_size.f k a0 = some r) :
    Calls Tryd.prog 49 #[.int .i64 a0] w fun e w' => e = .returned (.int .i64 r) ∧ Drawn0 w w' := by
  have H : (drovewayref05_size.l0 k a0 0) = some r := h
  clear h
  have H' := Aside0.mk H
  clear H
  go_enter Tryd.func49, Tryd.ntmps49
  go_wp2
  go_loopg [0, 3] k (fun kq v0 v3 w' => ∃ (x0_1 : Int) (x3_1 : Int), v0 = .int .i64 x0_1 ∧ v3 = .int .i64 x3_1 ∧ Aside0 (drovewayref05_size.l0 kq x0_1 x3_1 = some r) ∧ Aside0 (kq ≤ k) ∧ Drawn0 w w')
  case atStart => exact ⟨(a0), (0), (by first | rfl | (simp; done) | (simp [*]; done)), (by first | rfl | (simp; done) | (simp [*]; done)), H', ⟨Nat.le_refl _⟩, by repeat (first | exact Drawn0.refl _ | apply Drawn0.step)⟩
  case round =>
    clear H'
    obtain ⟨x0_1, x3_1, rfl, rfl, HA, HK1, ⟨m1, rfl⟩⟩ := hrel
    cases gk with
    | zero => exact absurd HA.out (by simp [drovewayref05_size.l0])
    | succ k1 =>
      have H := HA.out
      clear HA
      simp only [drovewayref05_size.l0] at H
      by_cases c2 : x0_1 > 0
      · rw [if_pos c2] at H
        have c2b0 : decide (0 < x0_1) = true := decide_eq_true c2
        clear c2
        have H' := Aside0.mk H
        clear H
        go_wp2
        go_roundg k1
        case measure => have := HK1.out; omega
        case rel => exact ⟨(wrap64 (Int.tdiv x0_1 2)), (wrap64 (x3_1 + (Int.tmod x0_1 2))), (by first | rfl | (simp; done) | (simp [*]; done)), (by first | rfl | (simp; done) | (simp [*]; done)), H', ⟨by have := HK1.out; omega⟩, by repeat (first | exact Drawn0.refl _ | apply Drawn0.step)⟩
      · rw [if_neg c2] at H
        have c2b0 : decide (0 < x0_1) = false := decide_eq_false c2
        clear c2
        obtain rfl := Option.some.inj H
        go_wp2
        go_ret
        exact ⟨by first | rfl | (simp; done) | (simp [*]; done), by repeat (first | exact Drawn0.refl _ | apply Drawn0.step)⟩

-- NOT PRINTED: function 20 (drovewayref05_Knot)

-- NOT PRINTED: function 21 (breed_Joined)

end
end Go.Proofs.YtdbbcngmnpejnaaDoor.B

/- The reference's build, walked: its text is that of the program's tree. -/
namespace Go.Proofs.YtdbbcngmnpejnaaDoor.B
open Go.Proofs.YtdbbcngmnpejnaaDoor.A
open Go.RowKit Go.Proofs.YtdbbcngmnpejnaaDoorW.PrintWords Go.Proofs.YtdbbcngmnpejnaaDoorW.PrintMore

theorem partsQ_F {l : List S44} {s : Nat} (hl : ∀ t ∈ l, Tri8 t) (hs : s < 256) : partsQ l s = partsF l s := parts_one hs (partsQ_of hl hs) (parts_spec hl hs)
def outS (ts : List BT) : List UInt8 := 40 :: Lib.join (ts.map BT.text) [44]
theorem join_snoc (y : List UInt8) : ∀ xs : List (List UInt8), xs ≠ [] → Lib.join (xs ++ [y]) [44] = Lib.join xs [44] ++ [44] ++ y
  | [], h => absurd rfl h
  | [x], _ => by rw [List.singleton_append, join_cons, join_one, join_one]
  | x :: z :: xs, _ => by
    have ih := join_snoc y (z :: xs) (by simp)
    rw [List.cons_append, List.cons_append, join_cons, ← List.cons_append, ih, join_cons]
    simp
theorem outS_one (t : BT) : strB (outS [t]) = strB (outS []) ++ strB t.text := by
  unfold outS
  rw [List.map_singleton, join_one]
  exact ByteArray.ext (by simp [strB, Lib.join])
theorem strB_app (x y : List UInt8) : strB (x ++ y) = strB x ++ strB y := ByteArray.ext (by simp [strB])
theorem outS_snoc {ts : List BT} (h : ts ≠ []) (t : BT) : strB (outS (ts ++ [t])) = strB (outS ts) ++ (⟨#[44]⟩ : ByteArray) ++ strB t.text := by
  unfold outS
  rw [List.map_append, List.map_singleton, join_snoc _ _ (by simpa using h), ← List.cons_append, ← List.cons_append, strB_app, strB_app]
  rfl
theorem outS_end (ts : List BT) : strB (BT.node ts).text = strB (outS ts) ++ (⟨#[41]⟩ : ByteArray) := by
  rw [text_node, ← List.cons_append, strB_app]
  rfl
theorem outS_len {ts : List BT} (h : ∀ t ∈ ts, t.Good) : (outS ts).length ≤ 1 + 33 * ts.length := by
  have hj : ∀ ts : List BT, (∀ t ∈ ts, t.Good) → (Lib.join (ts.map BT.text) [44]).length ≤ 33 * ts.length := by
    intro ts
    induction ts with
    | nil => intro _; exact Nat.zero_le _
    | cons t ts ih =>
      intro h
      have h1 := text_32 (h t List.mem_cons_self)
      have h2 := ih fun u hu => h u (List.mem_cons_of_mem _ hu)
      cases ts with
      | nil => rw [List.map_singleton, join_one]; simp; omega
      | cons u us =>
        rw [List.map_cons, List.map_cons, join_cons]
        rw [List.map_cons] at h2
        simp only [List.length_append, List.length_cons, List.length_nil] at h2 ⊢
        omega
  have := hj ts h
  unfold outS
  rw [List.length_cons]
  omega
theorem leaf_str (i : Nat) (hi : i < 8) : strOfNums ([wrap64 (48 + (i : Int)) % 256] : List Int) = strB (BT.leaf i).text := by
  rw [text_leaf]
  unfold strOfNums strB
  congr 2
  show [UInt8.ofNat (wrap64 (48 + (i : Int)) % 256).toNat] = [UInt8.ofNat (48 + i)]
  rw [show wrap64 (48 + (i : Int)) = ((48 + i : Nat) : Int) by unfold wrap64; omega, show ((48 + i : Nat) : Int) % 256 = ((48 + i : Nat) : Int) by omega, Int.toNat_natCast]
theorem strB_size' (L : List UInt8) : (strB L).size = L.length := rfl
/-- What the reference's build hands back. -/
def rtext : Option BT → ByteArray
  | some t => strB t.text
  | none => ⟨#[]⟩
theorem leaf_str2 (i : Nat) : strOfNums ([48 + (i : Int)] : List Int) = strB (BT.leaf i).text := by
  rw [text_leaf]
  unfold strOfNums strB
  congr 2
theorem least_calls {s : Nat} (h0 : s ≠ 0) (h8 : s < 256) (W : World) : Calls Tryd.prog 71 #[.int .i64 (s : Int)] W fun e w' => e = .returned (.int .i64 (low s : Int)) ∧ Below W.heap.size W w' := by
  have h : (List.range 256).all (fun s => s == 0 || decide (drovewayref05_least.f 20 (s : Int) = some (low s : Int))) = true := by decide +kernel
  have h := List.all_eq_true.1 h s (List.mem_range.2 h8)
  rw [Bool.or_eq_true, decide_eq_true_iff, beq_iff_eq] at h
  refine (drovewayref05_least.calls 20 (s : Int) _ W (h.resolve_left h0)).mono ?_
  rintro e w' ⟨rfl, ⟨nd, rfl⟩⟩
  exact ⟨rfl, pw_below_drewN (Below.refl _ _) nd⟩

set_option maxRecDepth 100000 in
set_option maxHeartbeats 3200000 in
theorem rbuild_step (A : Option Addr) (c : Nat) (l : List S44) (hl : ∀ t ∈ l, Tri8 t) (hn : l.length ≤ 1000) (f : Nat)
    (IH : ∀ s W, s ≠ 0 → s < 256 → pcN s 8 < f → Kd.C k44 W A l.length l → Calls Tryd.prog 46 #[.slice A l.length c, .int .i64 (s : Int)] W fun e w' => e = .returned (.tuple #[.string (rtext (buildF l f s)), .bool (buildF l f s).isSome]) ∧ Below W.heap.size W w')
    (s : Nat) (W : World) (h0 : s ≠ 0) (h8 : s < 256) (hf : pcN s 8 < f + 1) (hr : Kd.C k44 W A l.length l) :
    Calls Tryd.prog 46 #[.slice A l.length c, .int .i64 (s : Int)] W fun e w' => e = .returned (.tuple #[.string (rtext (buildF l (f + 1) s)), .bool (buildF l (f + 1) s).isSome]) ∧ Below W.heap.size W w' := by
  have HR := Aside0.mk hr
  have HL := Aside0.mk hl
  have HIH := Aside0.mk IH
  obtain ⟨Z, hZ⟩ : ∃ Z, buildF l (f + 1) s = Z := ⟨_, rfl⟩
  have HZ : Aside0 ((if s &&& (s - 1) = 0 then some (.leaf (low s)) else if (partsF l s).length = 1 then none else (mapO (buildF l f) (partsF l s)).map .node) = Z) := ⟨by rw [← hZ, buildF]⟩
  rw [hZ]
  have hand := and_cast (a := s) (b := s - 1) h8 (by omega)
  have hs1 : ((s - 1 : Nat) : Int) = (s : Int) - 1 := by omega
  rw [hs1] at hand
  have HJ := Aside0.mk (parts_calls A c l s h8 hl hn W hr)
  rw [partsQ_F hl h8] at HJ
  have HLE := Aside0.mk (fun w => least_calls h0 h8 w)
  obtain ⟨n, hnn⟩ : ∃ n, l.length = n := ⟨_, rfl⟩
  have HN := Aside0.mk hnn
  rw [hnn] at HJ hn ⊢
  clear hr hl IH hZ hnn
  by_cases h1 : s &&& (s - 1) = 0
  · have HZ1 : Aside0 (some (.leaf (low s)) = Z) := ⟨by have := HZ.out; rwa [if_pos h1] at this⟩
    have hlo := low_lt h0 h8
    have HLS := Aside0.mk (leaf_str2 (low s))
    rw [h1] at hand
    clear h1 HZ
    go_enter Tryd.func46, Tryd.ntmps46
    go_wp2_with (first
      | (go_at_call 50; go_must (refine HJ.out.mono ?_; rintro e w1 ⟨v1, rfl, hR1, hb1⟩; obtain ⟨A1, c1, rfl, _, _⟩ := Kd.R_reads hR1; have HB := Aside0.mk hb1; clear hR1 hb1))
      | (go_at_call 71; go_must (refine (HLE.out _).mono ?_; rintro e w2 ⟨rfl, hb⟩; have HB2 := Aside0.mk (below_then HB.out HB.out.size hb); clear hb))
      | ((with_reducible refine gate_dst (N := 23) rfl ?_); refine Kd.R_lit (Kd.int .u8) w2.heap.size 5 ?hg (N := 23) ?hd (xs := ([48 + (low s : Int)] : List Int)) (inner := [.int .u8 (48 + (low s : Int))]) (ok := fun _ => True) (okp := fun _ => True) ?hr ?hp (fun _ hk => hk) trivial (Below.refl _ _) (Nat.le_refl _) (by simp) ?_; (case hd => rfl); (case hg => rfl); (case hr => first | (go_simp; done) | (go_simp; rfl)); (case hp => exact (Reps.one (show Kd.M (Kd.int .u8) _ _ _ (48 + (low s : Int)) [.int .u8 (48 + (low s : Int))] from rfl) (Reps.none _ _))); intro v7 w7 ho7 hb7 _ _; have HB7 := Aside0.mk (below_then HB2.out HB2.out.size hb7); have hcv := own_string (P := Tryd.prog) Tryd.underlying64 Tryd.underlying5 Tryd.underlying9 (Kd.own_of_R ho7); clear ho7 hb7))
    go_ret2
    exact ⟨by rw [← HZ1.out]; exact congrArg _ (congrArg _ (by rw [HLS.out]; rfl)), HB7.out⟩
  · have hab : (((s &&& (s - 1) : Nat) : Int) == 0) = false := by rw [beq_eq_false_iff_ne]; omega
    have HZ1 : Aside0 ((if (partsF l s).length = 1 then none else (mapO (buildF l f) (partsF l s)).map .node) = Z) := ⟨by have := HZ.out; rwa [if_neg h1] at this⟩
    clear h1 HZ
    generalize ((s &&& (s - 1) : Nat) : Int) = sa at hand hab
    go_enter Tryd.func46, Tryd.ntmps46
    go_upto_region 4 with (go_at_call 50; go_must (refine HJ.out.mono ?_; rintro e w1 ⟨v1, rfl, hR1, hb1⟩; have HR1 := Aside0.mk hR1; have HB1 := Aside0.mk hb1; clear hR1 hb1))
    have hm8 : (partsF l s).length ≤ 8 := by
      have h := asc_len (m := 8) ((partsF l s).map low) 0 (by rw [List.pairwise_map]; exact (parts_spec HL.out h8).apart.imp fun h => h.2) (fun x hx => by
        obtain ⟨p, hp, rfl⟩ := List.mem_map.mp hx
        exact ⟨Nat.zero_le _, low_lt ((parts_spec HL.out h8).ne p hp) (lt_of_bits (k := 8) fun i hi => bit_lt (k := 8) h8 ((parts_spec HL.out h8).sub p hp i hi))⟩) (by decide)
      rw [List.length_map] at h
      omega
    obtain ⟨A1, c1, hv1, _, hC1⟩ := Kd.R_reads HR1.out
    rw [List.length_map] at hv1 hC1
    subst hv1
    have HC1 := Aside0.mk hC1
    obtain ⟨m, hm⟩ : ∃ m, (partsF l s).length = m := ⟨_, rfl⟩
    have HPL : Aside0 (m ≠ 1 → ∀ p ∈ partsF l s, pcN p 8 < f) := ⟨fun h1 p hp => by
      have := part_less HL.out h8 hp (by omega)
      omega⟩
    rw [hm] at hm8 HC1 ⊢
    have HM := Aside0.mk hm
    clear hC1 hm
    by_cases h1 : m = 1
    · have HZ2 : Aside0 (none = Z) := ⟨by have := HZ1.out; rwa [if_pos (by have := HM.out; omega)] at this⟩
      have hme : ((m : Int) == 1) = true := by rw [beq_iff_eq]; omega
      clear h1 hm8
      go_wp2
      go_ret2
      exact ⟨by rw [← HZ2.out]; rfl, HB1.out⟩
    · have HZ2 : Aside0 ((mapO (buildF l f) (partsF l s)).map .node = Z) := ⟨by have := HZ1.out; rwa [if_neg (by have := HM.out; omega)] at this⟩
      have hme : ((m : Int) == 1) = false := by rw [beq_eq_false_iff_ne]; omega
      have HPL2 := Aside0.mk (HPL.out h1)
      have HPS : Aside0 (∀ p ∈ partsF l s, p ≠ 0 ∧ p < 256) := ⟨fun p hp => ⟨(parts_spec HL.out h8).ne p hp, lt_of_bits (k := 8) fun i hi => bit_lt (k := 8) h8 ((parts_spec HL.out h8).sub p hp i hi)⟩⟩
      clear h1 HZ1 HPL
      go_upto_region 8 with fail
      go_loopg [7, 8, 9, 10] m (fun gg v7 v8 _ _ wr => ∃ (k : Nat) (ts : List BT), k ≤ m ∧ m - k ≤ gg ∧ v8 = .int .i64 (k : Int) ∧ v7 = .string (strB (outS ts)) ∧ Aside0 (ts.length = k) ∧ Aside0 (((partsF l s).take k).map (buildF l f) = ts.map some) ∧ Aside0 (∀ t ∈ ts, t.Good) ∧ Aside0 (Below w1.heap.size w1 wr))
      case atStart => exact ⟨0, [], Nat.zero_le _, by omega, rfl, rfl, ⟨rfl⟩, ⟨rfl⟩, ⟨fun t h => (by cases h)⟩, ⟨Below.refl _ _⟩⟩
      case round =>
        obtain ⟨k, ts, hk, hgg, rfl, rfl, HTL, HTS, HTG, HB⟩ := hrel
        have hWr : Below W.heap.size W wr := below_then HB1.out HB1.out.size HB.out
        have HWR := Aside0.mk hWr
        have hsz : (strB (outS ts)).size ≤ 400 := by
          have h := outS_len HTG.out
          have h2 := HTL.out
          rw [strB_size']
          omega
        by_cases hkm : k < m
        · have hkz : (k : Int) < (m : Int) := by omega
          obtain ⟨ad, had, hx0⟩ := Kd.at_int (Kd.C_below HC1.out HB.out) (k : Int) (by omega) (by omega)
          subst had
          rw [Int.toNat_natCast] at hx0
          obtain ⟨p, hpe⟩ : ∃ p, (partsF l s)[k]? = some p := ⟨_, List.getElem?_eq_getElem (by have := HM.out; omega)⟩
          have hp : p ∈ partsF l s := List.mem_of_getElem? hpe
          have hrd : rd ((partsF l s).map fun p : Nat => (p : Int)) (k : Int) = (p : Int) := by
            simp [rd, List.getD_eq_getElem?_getD, hpe]
          rw [hrd] at hx0
          have HTK : Aside0 ((partsF l s).take (k + 1) = (partsF l s).take k ++ [p]) := ⟨by rw [List.take_add_one, hpe]; rfl⟩
          have hcall := HIH.out p wr (HPS.out p hp).1 (HPS.out p hp).2 (HPL2.out p hp) (Kd.C_below HR.out hWr)
          rw [HN.out] at hcall
          have HPM := Aside0.mk hp
          have hp8 := HPS.out p hp
          clear hrd hp hpe hWr
          cases hb : buildF l f p with
          | none =>
            rw [hb] at hcall
            have HC : Aside0 (Calls Tryd.prog 46 #[.slice A n c, .int .i64 (p : Int)] wr fun e w' => e = .returned (.tuple #[.string ⟨#[]⟩, .bool false]) ∧ Below wr.heap.size wr w') := ⟨hcall⟩
            have HZ3 : Aside0 (none = Z) := ⟨by have := HZ2.out; rwa [mapO_none.mpr ⟨p, HPM.out, hb⟩] at this⟩
            clear hcall hb
            go_wp2_with (go_at_call 46; go_must (refine HC.out.mono ?_; rintro e w5 ⟨rfl, hb5⟩; have HB5 := Aside0.mk (below_then HWR.out HWR.out.size hb5); clear hb5))
            go_ret2
            exact ⟨by rw [← HZ3.out]; rfl, HB5.out⟩
          | some t =>
            rw [hb] at hcall
            obtain ⟨tx, htx⟩ : ∃ tx, strB t.text = tx := ⟨_, rfl⟩
            have HC : Aside0 (Calls Tryd.prog 46 #[.slice A n c, .int .i64 (p : Int)] wr fun e w' => e = .returned (.tuple #[.string tx, .bool true]) ∧ Below wr.heap.size wr w') := ⟨by rw [← htx]; exact hcall⟩
            have HGT := Aside0.mk (build_good HL.out f p t hp8.1 hp8.2 hb).1
            have htz : tx.size ≤ 32 := by rw [← htx, strB_size']; exact text_32 HGT.out
            have HTX := Aside0.mk htx
            have HTS2 : Aside0 (((partsF l s).take (k + 1)).map (buildF l f) = (ts ++ [t]).map some) := ⟨by rw [HTK.out, List.map_append, HTS.out, List.map_append, List.map_singleton, hb]; rfl⟩
            have HTG2 : Aside0 (∀ u ∈ ts ++ [t], u.Good) := ⟨fun u hu => by
              rcases List.mem_append.mp hu with h | h
              · exact HTG.out u h
              · rw [List.mem_singleton.mp h]; exact HGT.out⟩
            have HTL2 : Aside0 ((ts ++ [t]).length = k + 1) := ⟨by rw [List.length_append, List.length_singleton, HTL.out]⟩
            clear hcall hb htx
            by_cases hk0 : k = 0
            · have HK0 := Aside0.mk hk0
              have hk1 : ¬ (0 : Int) < (k : Int) := by omega
              have HNX : Aside0 (strB (outS ts) ++ tx = strB (outS (ts ++ [t]))) := ⟨by
                obtain rfl := List.length_eq_zero_iff.mp (HTL.out.trans hk0)
                rw [← HTX.out, List.nil_append, outS_one]⟩
              generalize strB (outS ts) = o at hsz HNX ⊢
              have hc1 : o.size + tx.size ≤ 9223372036854775807 := by omega
              have hc2 : (9223372036854775807 < o.size + tx.size) = False := eq_false (by omega)
              clear HTL HTS HTG HTK hk0
              go_wp2_with (go_at_call 46; go_must (refine HC.out.mono ?_; rintro e w5 ⟨rfl, hb5⟩; have HB5 := Aside0.mk (below_then HB.out HB.out.size hb5); clear hb5))
              go_roundg (m - (k + 1))
              case measure => omega
              case rel => exact ⟨k + 1, ts ++ [t], by omega, by omega, by go_num, by rw [← HNX.out], HTL2, HTS2, HTG2, HB5⟩
            · have hk1 : (0 : Int) < (k : Int) := by omega
              have HNX : Aside0 (strB (outS ts) ++ (⟨#[44]⟩ : ByteArray) ++ tx = strB (outS (ts ++ [t]))) := ⟨by
                rw [← HTX.out, outS_snoc (fun e => by have := HTL.out; rw [e] at this; exact hk0 this.symm)]⟩
              generalize strB (outS ts) = o at hsz HNX ⊢
              have hc1 : o.size + 1 ≤ 9223372036854775807 := by omega
              have hc2 : (9223372036854775807 < o.size + 1) = False := eq_false (by omega)
              have hc3 : o.size + 1 + tx.size ≤ 9223372036854775807 := by omega
              have hc4 : (9223372036854775807 < o.size + 1 + tx.size) = False := eq_false (by omega)
              clear HTL HTS HTG HTK hk0
              go_wp2_with (go_at_call 46; go_must (refine HC.out.mono ?_; rintro e w5 ⟨rfl, hb5⟩; have HB5 := Aside0.mk (below_then HB.out HB.out.size hb5); clear hb5))
              go_roundg (m - (k + 1))
              case measure => omega
              case rel => exact ⟨k + 1, ts ++ [t], by omega, by omega, by go_num, by rw [← HNX.out], HTL2, HTS2, HTG2, HB5⟩
        · have hkz : ¬ (k : Int) < (m : Int) := by omega
          have HZ3 : Aside0 (some (.node ts) = Z) := ⟨by
            have h2 := HZ2.out
            have h3 := HTS.out
            rw [List.take_of_length_le (by have := HM.out; omega)] at h3
            rw [mapO_some.mpr h3] at h2
            exact h2⟩
          have HNX : Aside0 (strB (outS ts) ++ (⟨#[41]⟩ : ByteArray) = strB (BT.node ts).text) := ⟨(outS_end ts).symm⟩
          generalize strB (outS ts) = o at hsz HNX ⊢
          have hc1 : o.size + 1 ≤ 9223372036854775807 := by omega
          have hc2 : (9223372036854775807 < o.size + 1) = False := eq_false (by omega)
          go_wp2
          go_ret2
          exact ⟨by rw [← HZ3.out, HNX.out]; rfl, HWR.out⟩
/-- The reference's build. -/
theorem rbuild_calls (A : Option Addr) (c : Nat) (l : List S44) (hl : ∀ t ∈ l, Tri8 t) (hn : l.length ≤ 1000) : ∀ f s W, s ≠ 0 → s < 256 → pcN s 8 < f → Kd.C k44 W A l.length l → Calls Tryd.prog 46 #[.slice A l.length c, .int .i64 (s : Int)] W fun e w' => e = .returned (.tuple #[.string (rtext (buildF l f s)), .bool (buildF l f s).isSome]) ∧ Below W.heap.size W w'
  | 0, _, _, _, _, h, _ => absurd h (Nat.not_lt_zero _)
  | f + 1, s, W, h0, h8, h, hr => rbuild_step A c l hl hn f (fun s W h0 h8 hf hr => rbuild_calls A c l hl hn f s W h0 h8 hf hr) s W h0 h8 h hr
end Go.Proofs.YtdbbcngmnpejnaaDoor.B

/- The law package's small functions, as the kit's print writes them. -/
namespace Go.Proofs.YtdbbcngmnpejnaaDoor.B
open Go.Proofs.YtdbbcngmnpejnaaDoor.A
open Go.RowKit Go.Proofs.YtdbbcngmnpejnaaDoorW.PrintWords Go.Proofs.YtdbbcngmnpejnaaDoorW.PrintLast Go.Proofs.YtdbbcngmnpejnaaDoorW.PrintMore
section
attribute [local go_sem] max2_int min2_int max_two min_two max_three min_three max_four min_four   -- for this text's walks alone
set_option linter.unusedVariables false
set_option linter.unusedSimpArgs false
attribute [local go_sem high] eqA44
/-! ### drovewaylaw05_few: function 16 -/
def drovewaylaw05_few.f (l0 : List (S44)) (a1 : ByteArray) : Option (Bool) := if (l0.length : Int) ≤ 100 then (some (decide ((a1.size : Int) ≤ 100))) else (some false)
set_option maxHeartbeats 8000000 in
set_option maxRecDepth 100000 in
theorem drovewaylaw05_few.calls (A0 : Option Addr) (c0 : Nat) (l0 : List (S44)) (a1 : ByteArray) (r : Bool) (w : World) (hr0 : Kd.C k44 w A0 l0.length l0) (hc0 : l0.length ≤ c0) (h : drovewaylaw05_few.f l0 a1 = some r) :
    Calls Tryd.prog 16 #[.slice A0 l0.length c0, .string a1] w fun e w' => e = .returned (.bool r) ∧ Drawn0 w w' := by
  have HR0 := Aside0.mk hr0
  have HC0 := Aside0.mk hc0
  clear hr0 hc0
  have H : (if (l0.length : Int) ≤ 100 then (some (decide ((a1.size : Int) ≤ 100))) else (some false)) = some r := h
  clear h
  by_cases c3 : (l0.length : Int) ≤ 100
  · rw [if_pos c3] at H
    have c3b0 : decide ((l0.length : Int) ≤ 100) = true := decide_eq_true c3
    have c3b1 : decide (l0.length ≤ 100) = true := decide_eq_true (by omega)
    clear c3
    obtain rfl := Option.some.inj H
    go_enter Tryd.func16, Tryd.ntmps16
    go_wp2
    go_ret
    exact ⟨by first | rfl | (simp; done) | (simp [*]; done), by repeat (first | exact Drawn0.refl _ | apply Drawn0.step)⟩
  · rw [if_neg c3] at H
    have c3b0 : decide ((l0.length : Int) ≤ 100) = false := decide_eq_false c3
    have c3b1 : decide (l0.length ≤ 100) = false := decide_eq_false (by omega)
    clear c3
    obtain rfl := Option.some.inj H
    go_enter Tryd.func16, Tryd.ntmps16
    go_wp2
    go_ret
    exact ⟨by first | rfl | (simp; done) | (simp [*]; done), by repeat (first | exact Drawn0.refl _ | apply Drawn0.step)⟩

/-! ### drovewaylaw05_same: function 23 -/
def drovewaylaw05_same.l0 : Nat → List (S44) → List (S44) → Int → Option (Bool)
  | 0, _, _, _ => none
  | k + 1, x0, x1, x5 => if x5 < (x0.length : Int) then (if 0 ≤ x5 then (if x5 < (x1.length : Int) then (if (!(((rd_T44 x0 x5).f0) == ((rd_T44 x1 x5).f0)) || (!(((rd_T44 x0 x5).f1) == ((rd_T44 x1 x5).f1)) || (!(((rd_T44 x0 x5).f2) == ((rd_T44 x1 x5).f2))))) = true then (some false) else (drovewaylaw05_same.l0 k x0 x1 (wrap64 (x5 + 1)))) else (none)) else (none)) else (some true)
def drovewaylaw05_same.f (k : Nat) (l0 : List (S44)) (l1 : List (S44)) : Option (Bool) := if (l0.length : Int) = (l1.length : Int) then (drovewaylaw05_same.l0 k l0 l1 0) else (some false)
theorem drovewaylaw05_same.mono_l : ∀ k, (∀ y0 y1 y2, LeO (drovewaylaw05_same.l0 k y0 y1 y2) (drovewaylaw05_same.l0 (k + 1) y0 y1 y2))
  | 0 => fun _ _ _ r h => by simp [drovewaylaw05_same.l0] at h
  | k + 1 => by
    have ih0 := drovewaylaw05_same.mono_l k
    · intro y0 y1 y2
      unfold drovewaylaw05_same.l0
      repeat' first
      | (with_reducible exact ih0 _ _ _)
      | (with_reducible exact LeO.refl _)
      | (with_reducible exact LeO.none _)
      | (with_reducible refine LeO.ite ?_ ?_)
      | (with_reducible refine LeO.bind ?_ (fun _ => ?_))
      | exact ih0 _ _ _
      | exact LeO.none _
      | refine LeO.ite ?_ ?_
      | refine LeO.bind ?_ (fun _ => ?_)
theorem drovewaylaw05_same.mono : ∀ a0 a1 k, LeO (drovewaylaw05_same.f k a0 a1) (drovewaylaw05_same.f (k + 1) a0 a1) := by
  intro a0 a1 k
  have ih0 := drovewaylaw05_same.mono_l k
  unfold drovewaylaw05_same.f
  repeat' first
      | (with_reducible exact ih0 _ _ _)
      | (with_reducible exact LeO.refl _)
      | (with_reducible exact LeO.none _)
      | (with_reducible refine LeO.ite ?_ ?_)
      | (with_reducible refine LeO.bind ?_ (fun _ => ?_))
      | exact ih0 _ _ _
      | exact LeO.none _
      | refine LeO.ite ?_ ?_
      | refine LeO.bind ?_ (fun _ => ?_)
set_option maxHeartbeats 8000000 in
set_option maxRecDepth 100000 in
theorem drovewaylaw05_same.calls (k : Nat) (A0 : Option Addr) (c0 : Nat) (l0 : List (S44)) (A1 : Option Addr) (c1 : Nat) (l1 : List (S44)) (r : Bool) (w : World) (hr0 : Kd.C k44 w A0 l0.length l0) (hc0 : l0.length ≤ c0) (hr1 : Kd.C k44 w A1 l1.length l1) (hc1 : l1.length ≤ c1) (h : drovewaylaw05_same.f k l0 l1 = some r) :
    Calls Tryd.prog 23 #[.slice A0 l0.length c0, .slice A1 l1.length c1] w fun e w' => e = .returned (.bool r) ∧ Drawn0 w w' := by
  have hu44 := Tryd.underlying44
  have HR0 := Aside0.mk hr0
  have HC0 := Aside0.mk hc0
  clear hr0 hc0
  have HR1 := Aside0.mk hr1
  have HC1 := Aside0.mk hc1
  clear hr1 hc1
  have H : (if (l0.length : Int) = (l1.length : Int) then (drovewaylaw05_same.l0 k l0 l1 0) else (some false)) = some r := h
  clear h
  by_cases c3 : (l0.length : Int) = (l1.length : Int)
  · rw [if_pos c3] at H
    have c3b0 : ((l0.length : Int) == (l1.length : Int)) = true := beq_iff_eq.mpr c3
    have c3b1 : ((l0.length : Int) != (l1.length : Int)) = false := bne_eq_false_iff_eq.mpr c3
    have c3b2 : (l0.length == l1.length) = true := by first | simpa using c3 | (simp at c3 ⊢; omega)
    clear c3
    have H' := Aside0.mk H
    clear H
    go_enter Tryd.func23, Tryd.ntmps23
    go_wp2
    repeat (go_quiet (fail); try go_wp2)
    go_loopg [5] k (fun kq v5 w' => ∃ (x5_1 : Int), v5 = .int .i64 x5_1 ∧ Aside0 (drovewaylaw05_same.l0 kq l0 l1 x5_1 = some r) ∧ Aside0 (kq ≤ k) ∧ Drawn0 w w')
    case atStart => exact ⟨(0), (by first | rfl | (simp; done) | (simp [*]; done)), H', ⟨Nat.le_refl _⟩, by repeat (first | exact Drawn0.refl _ | apply Drawn0.step)⟩
    case round =>
      clear H'
      try clear c1
      try clear c2
      try clear p2
      try clear c3
      try clear c3b0
      try clear c3b1
      try clear c3b2
      obtain ⟨x5_1, rfl, HA, HK1, ⟨m1, rfl⟩⟩ := hrel
      cases gk with
      | zero => exact absurd HA.out (by simp [drovewaylaw05_same.l0])
      | succ k1 =>
        have H := HA.out
        clear HA
        simp only [drovewaylaw05_same.l0] at H
        by_cases c4 : x5_1 < (l0.length : Int)
        · rw [if_pos c4] at H
          have c4b0 : decide (x5_1 < (l0.length : Int)) = true := decide_eq_true c4
          clear c4
          by_cases c5 : 0 ≤ x5_1
          · rw [if_pos c5] at H
            have c5b0 : decide (0 ≤ x5_1) = true := decide_eq_true c5
            clear c5
            by_cases c6 : x5_1 < (l1.length : Int)
            · rw [if_pos c6] at H
              have c6b0 : decide (x5_1 < (l1.length : Int)) = true := decide_eq_true c6
              clear c6
              by_cases c7 : (!(((rd_T44 l0 x5_1).f0) == ((rd_T44 l1 x5_1).f0)) || (!(((rd_T44 l0 x5_1).f1) == ((rd_T44 l1 x5_1).f1)) || (!(((rd_T44 l0 x5_1).f2) == ((rd_T44 l1 x5_1).f2))))) = true
              · rw [if_pos c7] at H
                have c7b0 : (!(((rd_T44 l0 x5_1).f0) == ((rd_T44 l1 x5_1).f0)) || (!(((rd_T44 l0 x5_1).f1) == ((rd_T44 l1 x5_1).f1)) || (!(((rd_T44 l0 x5_1).f2) == ((rd_T44 l1 x5_1).f2))))) = true := c7
                clear c7
                obtain rfl := Option.some.inj H
                have p253 : 0 ≤ (x5_1 : Int) := of_decide_eq_true (by first | (with_reducible assumption) | assumption)
                have q253 : x5_1 < (l0.length : Int) := of_decide_eq_true (by first | (with_reducible assumption) | assumption)
                obtain ⟨ad253, e253, hx253_0, hx253_1, hx253_2⟩ := at_T44 HR0.out x5_1 p253 q253
                cases e253
                replace p253 := eq_true p253
                replace q253 := eq_true q253
                have p254 : 0 ≤ (x5_1 : Int) := of_decide_eq_true (by first | (with_reducible assumption) | assumption)
                have q254 : x5_1 < (l1.length : Int) := of_decide_eq_true (by first | (with_reducible assumption) | assumption)
                obtain ⟨ad254, e254, hx254_0, hx254_1, hx254_2⟩ := at_T44 HR1.out x5_1 p254 q254
                cases e254
                replace p254 := eq_true p254
                replace q254 := eq_true q254
                go_wp2
                repeat (go_quiet (fail); try go_wp2)
                go_ret
                exact ⟨by first | rfl | (simp; done) | (simp [*]; done), by repeat (first | exact Drawn0.refl _ | apply Drawn0.step)⟩
              · rw [if_neg c7] at H
                have c7b0 : (!(((rd_T44 l0 x5_1).f0) == ((rd_T44 l1 x5_1).f0)) || (!(((rd_T44 l0 x5_1).f1) == ((rd_T44 l1 x5_1).f1)) || (!(((rd_T44 l0 x5_1).f2) == ((rd_T44 l1 x5_1).f2))))) = false := by simpa using c7
                clear c7
                have H' := Aside0.mk H
                clear H
                have p253 : 0 ≤ (x5_1 : Int) := of_decide_eq_true (by first | (with_reducible assumption) | assumption)
                have q253 : x5_1 < (l0.length : Int) := of_decide_eq_true (by first | (with_reducible assumption) | assumption)
                obtain ⟨ad253, e253, hx253_0, hx253_1, hx253_2⟩ := at_T44 HR0.out x5_1 p253 q253
                cases e253
                replace p253 := eq_true p253
                replace q253 := eq_true q253
                have p254 : 0 ≤ (x5_1 : Int) := of_decide_eq_true (by first | (with_reducible assumption) | assumption)
                have q254 : x5_1 < (l1.length : Int) := of_decide_eq_true (by first | (with_reducible assumption) | assumption)
                obtain ⟨ad254, e254, hx254_0, hx254_1, hx254_2⟩ := at_T44 HR1.out x5_1 p254 q254
                cases e254
                replace p254 := eq_true p254
                replace q254 := eq_true q254
                go_wp2
                repeat (go_quiet (fail); try go_wp2)
                go_roundg k1
                case measure => have := HK1.out; omega
                case rel => exact ⟨(wrap64 (x5_1 + 1)), (by first | rfl | (simp; done) | (simp [*]; done)), H', ⟨by have := HK1.out; omega⟩, by repeat (first | exact Drawn0.refl _ | apply Drawn0.step)⟩
            · rw [if_neg c6] at H
              exact absurd H (by simp)
          · rw [if_neg c5] at H
            exact absurd H (by simp)
        · rw [if_neg c4] at H
          have c4b0 : decide (x5_1 < (l0.length : Int)) = false := decide_eq_false c4
          clear c4
          obtain rfl := Option.some.inj H
          go_wp2
          repeat (go_quiet (fail); try go_wp2)
          go_ret
          exact ⟨by first | rfl | (simp; done) | (simp [*]; done), by repeat (first | exact Drawn0.refl _ | apply Drawn0.step)⟩
  · rw [if_neg c3] at H
    have c3b0 : ((l0.length : Int) == (l1.length : Int)) = false := beq_eq_false_iff_ne.mpr c3
    have c3b1 : ((l0.length : Int) != (l1.length : Int)) = true := bne_iff_ne.mpr c3
    have c3b2 : (l0.length == l1.length) = false := by first | simpa using c3 | (simp at c3 ⊢; omega)
    obtain rfl := Option.some.inj H
    go_enter Tryd.func23, Tryd.ntmps23
    go_wp2
    repeat (go_quiet (fail); try go_wp2)
    go_ret
    exact ⟨by first | rfl | (simp; done) | (simp [*]; done), by repeat (first | exact Drawn0.refl _ | apply Drawn0.step)⟩

-- NOT PRINTED: function 75 (api_Triple_75)

-- NOT PRINTED: function 57 (api_Triple_57)

-- NOT PRINTED: function 28 (breed_Shows)

end
end Go.Proofs.YtdbbcngmnpejnaaDoor.B

/- The reference's IsTriple, List and given, as the kit's print writes them. -/
namespace Go.Proofs.YtdbbcngmnpejnaaDoor.B
open Go.Proofs.YtdbbcngmnpejnaaDoor.A
open Go.RowKit Go.Proofs.YtdbbcngmnpejnaaDoorW.PrintWords Go.Proofs.YtdbbcngmnpejnaaDoorW.PrintLast Go.Proofs.YtdbbcngmnpejnaaDoorW.PrintMore
section
attribute [local go_sem] max2_int min2_int max_two min_two max_three min_three max_four min_four   -- for this text's walks alone
set_option linter.unusedVariables false
set_option linter.unusedSimpArgs false
/-! ### drovewayref05_IsTriple: function 31 -/
def drovewayref05_IsTriple.f (a0 : Int) (a1_0 : Int) (a1_1 : Int) (a1_2 : Int) : Option (Bool) := if a1_0 ≥ 0 then (if a1_0 < a1_1 then (if a1_1 < a0 then (if a1_2 ≥ 0 then (if a1_2 < a0 then (if a1_2 = a1_0 then (some false) else (some (a1_2 != a1_1))) else (some false)) else (some false)) else (some false)) else (some false)) else (some false)
set_option maxHeartbeats 8000000 in
set_option maxRecDepth 100000 in
theorem drovewayref05_IsTriple.calls (a0 : Int) (a1_0 : Int) (a1_1 : Int) (a1_2 : Int) (r : Bool) (w : World) (h : drovewayref05_IsTriple.f a0 a1_0 a1_1 a1_2 = some r) :
    Calls Tryd.prog 31 #[.int .i64 a0, .agg #[.int .i64 a1_0, .int .i64 a1_1, .int .i64 a1_2]] w fun e w' => e = .returned (.bool r) ∧ Below w.heap.size w w' := by
  have hu44 := Tryd.underlying44
  have HB := Aside0.mk (Below.refl w.heap.size w)
  have H : (if a1_0 ≥ 0 then (if a1_0 < a1_1 then (if a1_1 < a0 then (if a1_2 ≥ 0 then (if a1_2 < a0 then (if a1_2 = a1_0 then (some false) else (some (a1_2 != a1_1))) else (some false)) else (some false)) else (some false)) else (some false)) else (some false)) = some r := h
  clear h
  by_cases c3 : a1_0 ≥ 0
  · rw [if_pos c3] at H
    have c3b0 : decide (0 ≤ a1_0) = true := decide_eq_true c3
    clear c3
    by_cases c4 : a1_0 < a1_1
    · rw [if_pos c4] at H
      have c4b0 : decide (a1_0 < a1_1) = true := decide_eq_true c4
      clear c4
      by_cases c5 : a1_1 < a0
      · rw [if_pos c5] at H
        have c5b0 : decide (a1_1 < a0) = true := decide_eq_true c5
        clear c5
        by_cases c6 : a1_2 ≥ 0
        · rw [if_pos c6] at H
          have c6b0 : decide (0 ≤ a1_2) = true := decide_eq_true c6
          clear c6
          by_cases c7 : a1_2 < a0
          · rw [if_pos c7] at H
            have c7b0 : decide (a1_2 < a0) = true := decide_eq_true c7
            clear c7
            by_cases c8 : a1_2 = a1_0
            · rw [if_pos c8] at H
              have c8b0 : (a1_2 == a1_0) = true := beq_iff_eq.mpr c8
              have c8b1 : (a1_2 != a1_0) = false := bne_eq_false_iff_eq.mpr c8
              clear c8
              obtain rfl := Option.some.inj H
              go_enter Tryd.func31, Tryd.ntmps31
              go_wp2_with (first | ((with_reducible refine gate_dst (N := 3) rfl ?_); refine box_event ?hg (N := 3) ?hd (cs := #[.int .i64 a1_0, .int .i64 a1_1, .int .i64 a1_2]) (t := 44) ?hr ?_; (case hd => rfl); (case hg => rfl); (case hr => first | (go_simp; done) | (go_simp; rfl)); intro gb258 hg w9 hbox hb; have n0_ := Aside0.mk (below_step (by repeat (first | (with_reducible first | exact HB.out | apply below_alloc | apply pw_below_drewN | apply below_drew1) | exact HB.out)) hb); have n1_ := Aside0.mk (hbox); have n2_ := Aside0.mk ((by rw [hg]; exact (below_size (by repeat (first | (with_reducible first | exact HB.out | apply below_alloc | apply pw_below_drewN | apply below_drew1) | exact HB.out))) : w.heap.size ≤ gb258)); have n3_ := Aside0.mk ((by rw [hg]; exact (below_size (by repeat (first | (with_reducible first | exact HB.out | apply below_alloc | apply pw_below_drewN | apply below_drew1) | exact HB.out))) : w.heap.size ≤ gb258)); clear HB; have HB := n0_; have BK258 := n1_; have GW258 := n2_; have GE258 := n3_; clear n0_ n1_ n2_ n3_; clear hb hbox hg; have hcz10_0 : w9.cell? ⟨gb258, 0, none⟩ = some (.int .i64 a1_0) := (blk_cell BK258.out 0).trans rfl; have hcz10_1 : w9.cell? ⟨gb258, 1, none⟩ = some (.int .i64 a1_1) := (blk_cell BK258.out 1).trans rfl; have hcz10_2 : w9.cell? ⟨gb258, 2, none⟩ = some (.int .i64 a1_2) := (blk_cell BK258.out 2).trans rfl; have hfz10_0 := blk_frozen BK258.out 0; have hfz10_1 := blk_frozen BK258.out 1; have hfz10_2 := blk_frozen BK258.out 2))
              go_ret
              exact ⟨by first | rfl | (simp [errW_none, errW_some] <;> rfl) | (simp [*, errW_none, errW_some] <;> rfl), by repeat (first | (with_reducible first | exact HB.out | apply below_alloc | apply pw_below_drewN | apply below_drew1 | refine below_set ?_ GE258.out) | exact HB.out)⟩
            · rw [if_neg c8] at H
              have c8b0 : (a1_2 == a1_0) = false := beq_eq_false_iff_ne.mpr c8
              have c8b1 : (a1_2 != a1_0) = true := bne_iff_ne.mpr c8
              obtain rfl := Option.some.inj H
              go_enter Tryd.func31, Tryd.ntmps31
              go_wp2_with (first | ((with_reducible refine gate_dst (N := 3) rfl ?_); refine box_event ?hg (N := 3) ?hd (cs := #[.int .i64 a1_0, .int .i64 a1_1, .int .i64 a1_2]) (t := 44) ?hr ?_; (case hd => rfl); (case hg => rfl); (case hr => first | (go_simp; done) | (go_simp; rfl)); intro gb258 hg w11 hbox hb; have n0_ := Aside0.mk (below_step (by repeat (first | (with_reducible first | exact HB.out | apply below_alloc | apply pw_below_drewN | apply below_drew1) | exact HB.out)) hb); have n1_ := Aside0.mk (hbox); have n2_ := Aside0.mk ((by rw [hg]; exact (below_size (by repeat (first | (with_reducible first | exact HB.out | apply below_alloc | apply pw_below_drewN | apply below_drew1) | exact HB.out))) : w.heap.size ≤ gb258)); have n3_ := Aside0.mk ((by rw [hg]; exact (below_size (by repeat (first | (with_reducible first | exact HB.out | apply below_alloc | apply pw_below_drewN | apply below_drew1) | exact HB.out))) : w.heap.size ≤ gb258)); clear HB; have HB := n0_; have BK258 := n1_; have GW258 := n2_; have GE258 := n3_; clear n0_ n1_ n2_ n3_; clear hb hbox hg; have hcz12_0 : w11.cell? ⟨gb258, 0, none⟩ = some (.int .i64 a1_0) := (blk_cell BK258.out 0).trans rfl; have hcz12_1 : w11.cell? ⟨gb258, 1, none⟩ = some (.int .i64 a1_1) := (blk_cell BK258.out 1).trans rfl; have hcz12_2 : w11.cell? ⟨gb258, 2, none⟩ = some (.int .i64 a1_2) := (blk_cell BK258.out 2).trans rfl; have hfz12_0 := blk_frozen BK258.out 0; have hfz12_1 := blk_frozen BK258.out 1; have hfz12_2 := blk_frozen BK258.out 2))
              go_ret
              exact ⟨by first | rfl | (simp [errW_none, errW_some] <;> rfl) | (simp [*, errW_none, errW_some] <;> rfl), by repeat (first | (with_reducible first | exact HB.out | apply below_alloc | apply pw_below_drewN | apply below_drew1 | refine below_set ?_ GE258.out) | exact HB.out)⟩
          · rw [if_neg c7] at H
            have c7b0 : decide (a1_2 < a0) = false := decide_eq_false c7
            clear c7
            obtain rfl := Option.some.inj H
            go_enter Tryd.func31, Tryd.ntmps31
            go_wp2_with (first | ((with_reducible refine gate_dst (N := 3) rfl ?_); refine box_event ?hg (N := 3) ?hd (cs := #[.int .i64 a1_0, .int .i64 a1_1, .int .i64 a1_2]) (t := 44) ?hr ?_; (case hd => rfl); (case hg => rfl); (case hr => first | (go_simp; done) | (go_simp; rfl)); intro gb258 hg w13 hbox hb; have n0_ := Aside0.mk (below_step (by repeat (first | (with_reducible first | exact HB.out | apply below_alloc | apply pw_below_drewN | apply below_drew1) | exact HB.out)) hb); have n1_ := Aside0.mk (hbox); have n2_ := Aside0.mk ((by rw [hg]; exact (below_size (by repeat (first | (with_reducible first | exact HB.out | apply below_alloc | apply pw_below_drewN | apply below_drew1) | exact HB.out))) : w.heap.size ≤ gb258)); have n3_ := Aside0.mk ((by rw [hg]; exact (below_size (by repeat (first | (with_reducible first | exact HB.out | apply below_alloc | apply pw_below_drewN | apply below_drew1) | exact HB.out))) : w.heap.size ≤ gb258)); clear HB; have HB := n0_; have BK258 := n1_; have GW258 := n2_; have GE258 := n3_; clear n0_ n1_ n2_ n3_; clear hb hbox hg; have hcz14_0 : w13.cell? ⟨gb258, 0, none⟩ = some (.int .i64 a1_0) := (blk_cell BK258.out 0).trans rfl; have hcz14_1 : w13.cell? ⟨gb258, 1, none⟩ = some (.int .i64 a1_1) := (blk_cell BK258.out 1).trans rfl; have hcz14_2 : w13.cell? ⟨gb258, 2, none⟩ = some (.int .i64 a1_2) := (blk_cell BK258.out 2).trans rfl; have hfz14_0 := blk_frozen BK258.out 0; have hfz14_1 := blk_frozen BK258.out 1; have hfz14_2 := blk_frozen BK258.out 2))
            go_ret
            exact ⟨by first | rfl | (simp [errW_none, errW_some] <;> rfl) | (simp [*, errW_none, errW_some] <;> rfl), by repeat (first | (with_reducible first | exact HB.out | apply below_alloc | apply pw_below_drewN | apply below_drew1 | refine below_set ?_ GE258.out) | exact HB.out)⟩
        · rw [if_neg c6] at H
          have c6b0 : decide (0 ≤ a1_2) = false := decide_eq_false c6
          clear c6
          obtain rfl := Option.some.inj H
          go_enter Tryd.func31, Tryd.ntmps31
          go_wp2_with (first | ((with_reducible refine gate_dst (N := 3) rfl ?_); refine box_event ?hg (N := 3) ?hd (cs := #[.int .i64 a1_0, .int .i64 a1_1, .int .i64 a1_2]) (t := 44) ?hr ?_; (case hd => rfl); (case hg => rfl); (case hr => first | (go_simp; done) | (go_simp; rfl)); intro gb258 hg w15 hbox hb; have n0_ := Aside0.mk (below_step (by repeat (first | (with_reducible first | exact HB.out | apply below_alloc | apply pw_below_drewN | apply below_drew1) | exact HB.out)) hb); have n1_ := Aside0.mk (hbox); have n2_ := Aside0.mk ((by rw [hg]; exact (below_size (by repeat (first | (with_reducible first | exact HB.out | apply below_alloc | apply pw_below_drewN | apply below_drew1) | exact HB.out))) : w.heap.size ≤ gb258)); have n3_ := Aside0.mk ((by rw [hg]; exact (below_size (by repeat (first | (with_reducible first | exact HB.out | apply below_alloc | apply pw_below_drewN | apply below_drew1) | exact HB.out))) : w.heap.size ≤ gb258)); clear HB; have HB := n0_; have BK258 := n1_; have GW258 := n2_; have GE258 := n3_; clear n0_ n1_ n2_ n3_; clear hb hbox hg; have hcz16_0 : w15.cell? ⟨gb258, 0, none⟩ = some (.int .i64 a1_0) := (blk_cell BK258.out 0).trans rfl; have hcz16_1 : w15.cell? ⟨gb258, 1, none⟩ = some (.int .i64 a1_1) := (blk_cell BK258.out 1).trans rfl; have hcz16_2 : w15.cell? ⟨gb258, 2, none⟩ = some (.int .i64 a1_2) := (blk_cell BK258.out 2).trans rfl; have hfz16_0 := blk_frozen BK258.out 0; have hfz16_1 := blk_frozen BK258.out 1; have hfz16_2 := blk_frozen BK258.out 2))
          go_ret
          exact ⟨by first | rfl | (simp [errW_none, errW_some] <;> rfl) | (simp [*, errW_none, errW_some] <;> rfl), by repeat (first | (with_reducible first | exact HB.out | apply below_alloc | apply pw_below_drewN | apply below_drew1 | refine below_set ?_ GE258.out) | exact HB.out)⟩
      · rw [if_neg c5] at H
        have c5b0 : decide (a1_1 < a0) = false := decide_eq_false c5
        clear c5
        obtain rfl := Option.some.inj H
        go_enter Tryd.func31, Tryd.ntmps31
        go_wp2_with (first | ((with_reducible refine gate_dst (N := 3) rfl ?_); refine box_event ?hg (N := 3) ?hd (cs := #[.int .i64 a1_0, .int .i64 a1_1, .int .i64 a1_2]) (t := 44) ?hr ?_; (case hd => rfl); (case hg => rfl); (case hr => first | (go_simp; done) | (go_simp; rfl)); intro gb258 hg w17 hbox hb; have n0_ := Aside0.mk (below_step (by repeat (first | (with_reducible first | exact HB.out | apply below_alloc | apply pw_below_drewN | apply below_drew1) | exact HB.out)) hb); have n1_ := Aside0.mk (hbox); have n2_ := Aside0.mk ((by rw [hg]; exact (below_size (by repeat (first | (with_reducible first | exact HB.out | apply below_alloc | apply pw_below_drewN | apply below_drew1) | exact HB.out))) : w.heap.size ≤ gb258)); have n3_ := Aside0.mk ((by rw [hg]; exact (below_size (by repeat (first | (with_reducible first | exact HB.out | apply below_alloc | apply pw_below_drewN | apply below_drew1) | exact HB.out))) : w.heap.size ≤ gb258)); clear HB; have HB := n0_; have BK258 := n1_; have GW258 := n2_; have GE258 := n3_; clear n0_ n1_ n2_ n3_; clear hb hbox hg; have hcz18_0 : w17.cell? ⟨gb258, 0, none⟩ = some (.int .i64 a1_0) := (blk_cell BK258.out 0).trans rfl; have hcz18_1 : w17.cell? ⟨gb258, 1, none⟩ = some (.int .i64 a1_1) := (blk_cell BK258.out 1).trans rfl; have hcz18_2 : w17.cell? ⟨gb258, 2, none⟩ = some (.int .i64 a1_2) := (blk_cell BK258.out 2).trans rfl; have hfz18_0 := blk_frozen BK258.out 0; have hfz18_1 := blk_frozen BK258.out 1; have hfz18_2 := blk_frozen BK258.out 2))
        go_ret
        exact ⟨by first | rfl | (simp [errW_none, errW_some] <;> rfl) | (simp [*, errW_none, errW_some] <;> rfl), by repeat (first | (with_reducible first | exact HB.out | apply below_alloc | apply pw_below_drewN | apply below_drew1 | refine below_set ?_ GE258.out) | exact HB.out)⟩
    · rw [if_neg c4] at H
      have c4b0 : decide (a1_0 < a1_1) = false := decide_eq_false c4
      clear c4
      obtain rfl := Option.some.inj H
      go_enter Tryd.func31, Tryd.ntmps31
      go_wp2_with (first | ((with_reducible refine gate_dst (N := 3) rfl ?_); refine box_event ?hg (N := 3) ?hd (cs := #[.int .i64 a1_0, .int .i64 a1_1, .int .i64 a1_2]) (t := 44) ?hr ?_; (case hd => rfl); (case hg => rfl); (case hr => first | (go_simp; done) | (go_simp; rfl)); intro gb258 hg w19 hbox hb; have n0_ := Aside0.mk (below_step (by repeat (first | (with_reducible first | exact HB.out | apply below_alloc | apply pw_below_drewN | apply below_drew1) | exact HB.out)) hb); have n1_ := Aside0.mk (hbox); have n2_ := Aside0.mk ((by rw [hg]; exact (below_size (by repeat (first | (with_reducible first | exact HB.out | apply below_alloc | apply pw_below_drewN | apply below_drew1) | exact HB.out))) : w.heap.size ≤ gb258)); have n3_ := Aside0.mk ((by rw [hg]; exact (below_size (by repeat (first | (with_reducible first | exact HB.out | apply below_alloc | apply pw_below_drewN | apply below_drew1) | exact HB.out))) : w.heap.size ≤ gb258)); clear HB; have HB := n0_; have BK258 := n1_; have GW258 := n2_; have GE258 := n3_; clear n0_ n1_ n2_ n3_; clear hb hbox hg; have hcz20_0 : w19.cell? ⟨gb258, 0, none⟩ = some (.int .i64 a1_0) := (blk_cell BK258.out 0).trans rfl; have hcz20_1 : w19.cell? ⟨gb258, 1, none⟩ = some (.int .i64 a1_1) := (blk_cell BK258.out 1).trans rfl; have hcz20_2 : w19.cell? ⟨gb258, 2, none⟩ = some (.int .i64 a1_2) := (blk_cell BK258.out 2).trans rfl; have hfz20_0 := blk_frozen BK258.out 0; have hfz20_1 := blk_frozen BK258.out 1; have hfz20_2 := blk_frozen BK258.out 2))
      go_ret
      exact ⟨by first | rfl | (simp [errW_none, errW_some] <;> rfl) | (simp [*, errW_none, errW_some] <;> rfl), by repeat (first | (with_reducible first | exact HB.out | apply below_alloc | apply pw_below_drewN | apply below_drew1 | refine below_set ?_ GE258.out) | exact HB.out)⟩
  · rw [if_neg c3] at H
    have c3b0 : decide (0 ≤ a1_0) = false := decide_eq_false c3
    clear c3
    obtain rfl := Option.some.inj H
    go_enter Tryd.func31, Tryd.ntmps31
    go_wp2_with (first | ((with_reducible refine gate_dst (N := 3) rfl ?_); refine box_event ?hg (N := 3) ?hd (cs := #[.int .i64 a1_0, .int .i64 a1_1, .int .i64 a1_2]) (t := 44) ?hr ?_; (case hd => rfl); (case hg => rfl); (case hr => first | (go_simp; done) | (go_simp; rfl)); intro gb258 hg w21 hbox hb; have n0_ := Aside0.mk (below_step (by repeat (first | (with_reducible first | exact HB.out | apply below_alloc | apply pw_below_drewN | apply below_drew1) | exact HB.out)) hb); have n1_ := Aside0.mk (hbox); have n2_ := Aside0.mk ((by rw [hg]; exact (below_size (by repeat (first | (with_reducible first | exact HB.out | apply below_alloc | apply pw_below_drewN | apply below_drew1) | exact HB.out))) : w.heap.size ≤ gb258)); have n3_ := Aside0.mk ((by rw [hg]; exact (below_size (by repeat (first | (with_reducible first | exact HB.out | apply below_alloc | apply pw_below_drewN | apply below_drew1) | exact HB.out))) : w.heap.size ≤ gb258)); clear HB; have HB := n0_; have BK258 := n1_; have GW258 := n2_; have GE258 := n3_; clear n0_ n1_ n2_ n3_; clear hb hbox hg; have hcz22_0 : w21.cell? ⟨gb258, 0, none⟩ = some (.int .i64 a1_0) := (blk_cell BK258.out 0).trans rfl; have hcz22_1 : w21.cell? ⟨gb258, 1, none⟩ = some (.int .i64 a1_1) := (blk_cell BK258.out 1).trans rfl; have hcz22_2 : w21.cell? ⟨gb258, 2, none⟩ = some (.int .i64 a1_2) := (blk_cell BK258.out 2).trans rfl; have hfz22_0 := blk_frozen BK258.out 0; have hfz22_1 := blk_frozen BK258.out 1; have hfz22_2 := blk_frozen BK258.out 2))
    go_ret
    exact ⟨by first | rfl | (simp [errW_none, errW_some] <;> rfl) | (simp [*, errW_none, errW_some] <;> rfl), by repeat (first | (with_reducible first | exact HB.out | apply below_alloc | apply pw_below_drewN | apply below_drew1 | refine below_set ?_ GE258.out) | exact HB.out)⟩

/-! ### drovewayref05_List: function 30 -/
def drovewayref05_List.l0 : Nat → Int → List (S44) → Int → Option (Int)
  | 0, _, _, _ => none
  | k + 1, x0, x1, x5 => if x5 < (x1.length : Int) then (if 0 ≤ x5 then ((drovewayref05_IsTriple.f x0 ((rd_T44 x1 x5).f0) ((rd_T44 x1 x5).f1) ((rd_T44 x1 x5).f2)).bind fun t260 => (if t260 = true then (drovewayref05_List.l0 k x0 x1 (wrap64 (x5 + 1))) else (some 2))) else (none)) else (some 0)
def drovewayref05_List.f (k : Nat) (a0 : Int) (l1 : List (S44)) : Option (Int) := if (l1.length : Int) > 60 then (some 3) else (drovewayref05_List.l0 k a0 l1 0)
theorem drovewayref05_List.mono_l : ∀ k, (∀ y0 y1 y2, LeO (drovewayref05_List.l0 k y0 y1 y2) (drovewayref05_List.l0 (k + 1) y0 y1 y2))
  | 0 => fun _ _ _ r h => by simp [drovewayref05_List.l0] at h
  | k + 1 => by
    have ih0 := drovewayref05_List.mono_l k
    · intro y0 y1 y2
      unfold drovewayref05_List.l0
      repeat' first
      | (with_reducible exact ih0 _ _ _)
      | (with_reducible exact LeO.refl _)
      | (with_reducible exact LeO.none _)
      | (with_reducible refine LeO.ite ?_ ?_)
      | (with_reducible refine LeO.bind ?_ (fun _ => ?_))
      | exact ih0 _ _ _
      | exact LeO.none _
      | refine LeO.ite ?_ ?_
      | refine LeO.bind ?_ (fun _ => ?_)
theorem drovewayref05_List.mono : ∀ a0 a1 k, LeO (drovewayref05_List.f k a0 a1) (drovewayref05_List.f (k + 1) a0 a1) := by
  intro a0 a1 k
  have ih0 := drovewayref05_List.mono_l k
  unfold drovewayref05_List.f
  repeat' first
      | (with_reducible exact ih0 _ _ _)
      | (with_reducible exact LeO.refl _)
      | (with_reducible exact LeO.none _)
      | (with_reducible refine LeO.ite ?_ ?_)
      | (with_reducible refine LeO.bind ?_ (fun _ => ?_))
      | exact ih0 _ _ _
      | exact LeO.none _
      | refine LeO.ite ?_ ?_
      | refine LeO.bind ?_ (fun _ => ?_)
set_option maxHeartbeats 8000000 in
set_option maxRecDepth 100000 in
theorem drovewayref05_List.calls (k : Nat) (a0 : Int) (A1 : Option Addr) (c1 : Nat) (l1 : List (S44)) (r : Int) (w : World) (hr1 : Kd.C k44 w A1 l1.length l1) (hc1 : l1.length ≤ c1) (h : drovewayref05_List.f k a0 l1 = some r) :
    Calls Tryd.prog 30 #[.int .i64 a0, .slice A1 l1.length c1] w fun e w' => e = .returned (.int .i64 r) ∧ Below w.heap.size w w' := by
  have hu44 := Tryd.underlying44
  have HR1 := Aside0.mk hr1
  have HC1 := Aside0.mk hc1
  clear hr1 hc1
  have HB := Aside0.mk (Below.refl w.heap.size w)
  have H : (if (l1.length : Int) > 60 then (some 3) else (drovewayref05_List.l0 k a0 l1 0)) = some r := h
  clear h
  by_cases c3 : (l1.length : Int) > 60
  · rw [if_pos c3] at H
    have c3b0 : decide (60 < (l1.length : Int)) = true := decide_eq_true c3
    have c3b1 : decide (60 < l1.length) = true := decide_eq_true (by omega)
    clear c3
    obtain rfl := Option.some.inj H
    go_enter Tryd.func30, Tryd.ntmps30
    go_wp2
    go_ret
    exact ⟨by first | rfl | (simp [errW_none, errW_some] <;> rfl) | (simp [*, errW_none, errW_some] <;> rfl), by repeat (first | (with_reducible first | exact HB.out | apply below_alloc | apply pw_below_drewN | apply below_drew1) | exact HB.out)⟩
  · rw [if_neg c3] at H
    have c3b0 : decide (60 < (l1.length : Int)) = false := decide_eq_false c3
    have c3b1 : decide (60 < l1.length) = false := decide_eq_false (by omega)
    clear c3
    have H' := Aside0.mk H
    clear H
    go_enter Tryd.func30, Tryd.ntmps30
    go_wp2
    go_loopg [5] k (fun kq v5 w' => ∃ (x5_1 : Int), v5 = .int .i64 x5_1 ∧ Aside0 (drovewayref05_List.l0 kq a0 l1 x5_1 = some r) ∧ Aside0 (kq ≤ k) ∧ Aside0 (Below w.heap.size w w'))
    case atStart => exact ⟨(0), (by first | rfl | (simp; done) | (simp [*]; done)), H', ⟨Nat.le_refl _⟩, ⟨by repeat (first | (with_reducible first | exact HB.out | apply below_alloc | apply pw_below_drewN | apply below_drew1) | exact HB.out)⟩⟩
    case round =>
      clear H'
      try clear c1
      try clear p2
      try clear c3
      try clear c3b0
      try clear c3b1
      obtain ⟨x5_1, rfl, HA, HK1, HB⟩ := hrel
      cases gk with
      | zero => exact absurd HA.out (by simp [drovewayref05_List.l0])
      | succ k1 =>
        have H := HA.out
        clear HA
        simp only [drovewayref05_List.l0] at H
        by_cases c4 : x5_1 < (l1.length : Int)
        · rw [if_pos c4] at H
          have c4b0 : decide (x5_1 < (l1.length : Int)) = true := decide_eq_true c4
          clear c4
          by_cases c5 : 0 ≤ x5_1
          · rw [if_pos c5] at H
            have c5b0 : decide (0 ≤ x5_1) = true := decide_eq_true c5
            clear c5
            replace H := Option.bind_eq_some_iff.mp H
            obtain ⟨t260, A60, H⟩ := H
            replace H : (if t260 = true then (drovewayref05_List.l0 k1 a0 l1 (wrap64 (x5_1 + 1))) else (some 2)) = some r := H
            have A6 := Aside0.mk A60
            clear A60
            by_cases c7 : t260 = true
            · subst c7
              have H1 : (drovewayref05_List.l0 k1 a0 l1 (wrap64 (x5_1 + 1))) = some r := by rw [if_pos rfl] at H; exact H
              clear H
              have H := H1
              clear H1
              have H' := Aside0.mk H
              clear H
              have p259 : 0 ≤ (x5_1 : Int) := of_decide_eq_true (by first | (with_reducible assumption) | assumption)
              have q259 : x5_1 < (l1.length : Int) := of_decide_eq_true (by first | (with_reducible assumption) | assumption)
              obtain ⟨ad259, e259, hx259_0, hx259_1, hx259_2⟩ := at_T44 HR1.out x5_1 p259 q259
              cases e259
              replace hx259_0 := (HB.out.cell (World.block_lt_of_cell? w _ hx259_0)).trans hx259_0
              replace hx259_1 := (HB.out.cell (World.block_lt_of_cell? w _ hx259_1)).trans hx259_1
              replace hx259_2 := (HB.out.cell (World.block_lt_of_cell? w _ hx259_2)).trans hx259_2
              replace p259 := eq_true p259
              replace q259 := eq_true q259
              go_wp2_with (first | ((with_reducible refine gate_callee (f := 31) rfl ?_); refine goesL_ (some 20) rfl rfl Tryd.func31 (by kernel_rfl) rfl #[.int .i64 a0, .agg #[.int .i64 ((rd_T44 l1 x5_1).f0), .int .i64 ((rd_T44 l1 x5_1).f1), .int .i64 ((rd_T44 l1 x5_1).f2)]] rfl (by (try simp only [List.map_toArray, List.map_cons, List.map_nil]); first | done | rfl | (simp only [List.length_drop, List.length_take]; rfl)) ?_; (with_reducible refine (drovewayref05_IsTriple.calls a0 ((rd_T44 l1 x5_1).f0) ((rd_T44 l1 x5_1).f1) ((rd_T44 l1 x5_1).f2) true _ A6.out).mono ?_); rintro e w8 ⟨rfl, hb⟩; refine ⟨_, rfl, ?_⟩; have n0_ := Aside0.mk (below_step (by repeat (first | (with_reducible first | exact HB.out | apply below_alloc | apply pw_below_drewN | apply below_drew1) | exact HB.out)) hb); clear HB; have HB := n0_; clear n0_; (try clear hb); (try clear hb2); (try clear hk); (try clear hi)))
              go_roundg k1
              case measure => have := HK1.out; omega
              case rel => exact ⟨(wrap64 (x5_1 + 1)), (by first | rfl | (simp; done) | (simp [*]; done)), H', ⟨by have := HK1.out; omega⟩, ⟨by repeat (first | (with_reducible first | exact HB.out | apply below_alloc | apply pw_below_drewN | apply below_drew1) | exact HB.out)⟩⟩
            · replace c7 := Bool.eq_false_iff.mpr c7
              subst c7
              have H1 : (some 2) = some r := by rw [if_neg (show ¬ (false = true) by decide)] at H; exact H
              clear H
              have H := H1
              clear H1
              obtain rfl := Option.some.inj H
              have p259 : 0 ≤ (x5_1 : Int) := of_decide_eq_true (by first | (with_reducible assumption) | assumption)
              have q259 : x5_1 < (l1.length : Int) := of_decide_eq_true (by first | (with_reducible assumption) | assumption)
              obtain ⟨ad259, e259, hx259_0, hx259_1, hx259_2⟩ := at_T44 HR1.out x5_1 p259 q259
              cases e259
              replace hx259_0 := (HB.out.cell (World.block_lt_of_cell? w _ hx259_0)).trans hx259_0
              replace hx259_1 := (HB.out.cell (World.block_lt_of_cell? w _ hx259_1)).trans hx259_1
              replace hx259_2 := (HB.out.cell (World.block_lt_of_cell? w _ hx259_2)).trans hx259_2
              replace p259 := eq_true p259
              replace q259 := eq_true q259
              go_wp2_with (first | ((with_reducible refine gate_callee (f := 31) rfl ?_); refine goesL_ (some 20) rfl rfl Tryd.func31 (by kernel_rfl) rfl #[.int .i64 a0, .agg #[.int .i64 ((rd_T44 l1 x5_1).f0), .int .i64 ((rd_T44 l1 x5_1).f1), .int .i64 ((rd_T44 l1 x5_1).f2)]] rfl (by (try simp only [List.map_toArray, List.map_cons, List.map_nil]); first | done | rfl | (simp only [List.length_drop, List.length_take]; rfl)) ?_; (with_reducible refine (drovewayref05_IsTriple.calls a0 ((rd_T44 l1 x5_1).f0) ((rd_T44 l1 x5_1).f1) ((rd_T44 l1 x5_1).f2) false _ A6.out).mono ?_); rintro e w9 ⟨rfl, hb⟩; refine ⟨_, rfl, ?_⟩; have n0_ := Aside0.mk (below_step (by repeat (first | (with_reducible first | exact HB.out | apply below_alloc | apply pw_below_drewN | apply below_drew1) | exact HB.out)) hb); clear HB; have HB := n0_; clear n0_; (try clear hb); (try clear hb2); (try clear hk); (try clear hi)))
              go_ret
              exact ⟨by first | rfl | (simp [errW_none, errW_some] <;> rfl) | (simp [*, errW_none, errW_some] <;> rfl), by repeat (first | (with_reducible first | exact HB.out | apply below_alloc | apply pw_below_drewN | apply below_drew1) | exact HB.out)⟩
          · rw [if_neg c5] at H
            exact absurd H (by simp)
        · rw [if_neg c4] at H
          have c4b0 : decide (x5_1 < (l1.length : Int)) = false := decide_eq_false c4
          clear c4
          obtain rfl := Option.some.inj H
          go_wp2
          go_ret
          exact ⟨by first | rfl | (simp [errW_none, errW_some] <;> rfl) | (simp [*, errW_none, errW_some] <;> rfl), by repeat (first | (with_reducible first | exact HB.out | apply below_alloc | apply pw_below_drewN | apply below_drew1) | exact HB.out)⟩

/-! ### drovewayref05_given: function 45 -/
def drovewayref05_given.f (k : Nat) (a0 : Int) (l1 : List (S44)) : Option (Int) := if a0 < 1 then (some 2) else (if a0 > 8 then (some 2) else ((drovewayref05_List.f k a0 l1).bind fun t256 => (some t256)))
theorem drovewayref05_given.mono : ∀ a0 a1 k, LeO (drovewayref05_given.f k a0 a1) (drovewayref05_given.f (k + 1) a0 a1) := by
  intro a0 a1 k
  unfold drovewayref05_given.f
  repeat' first
      | (with_reducible exact drovewayref05_List.mono _ _ _)
      | (with_reducible exact LeO.refl _)
      | (with_reducible exact LeO.none _)
      | (with_reducible refine LeO.ite ?_ ?_)
      | (with_reducible refine LeO.bind ?_ (fun _ => ?_))
      | exact drovewayref05_List.mono _ _ _
      | exact LeO.none _
      | refine LeO.ite ?_ ?_
      | refine LeO.bind ?_ (fun _ => ?_)
set_option maxHeartbeats 8000000 in
set_option maxRecDepth 100000 in
theorem drovewayref05_given.calls (k : Nat) (a0 : Int) (A1 : Option Addr) (c1 : Nat) (l1 : List (S44)) (r : Int) (w : World) (hr1 : Kd.C k44 w A1 l1.length l1) (hc1 : l1.length ≤ c1) (h : drovewayref05_given.f k a0 l1 = some r) :
    Calls Tryd.prog 45 #[.int .i64 a0, .slice A1 l1.length c1] w fun e w' => e = .returned (.int .i64 r) ∧ Below w.heap.size w w' := by
  have HR1 := Aside0.mk hr1
  have HC1 := Aside0.mk hc1
  clear hr1 hc1
  have HB := Aside0.mk (Below.refl w.heap.size w)
  have H : (if a0 < 1 then (some 2) else (if a0 > 8 then (some 2) else ((drovewayref05_List.f k a0 l1).bind fun t256 => (some t256)))) = some r := h
  clear h
  by_cases c3 : a0 < 1
  · rw [if_pos c3] at H
    have c3b0 : decide (a0 < 1) = true := decide_eq_true c3
    clear c3
    obtain rfl := Option.some.inj H
    go_enter Tryd.func45, Tryd.ntmps45
    go_wp2
    go_ret
    exact ⟨by first | rfl | (simp [errW_none, errW_some] <;> rfl) | (simp [*, errW_none, errW_some] <;> rfl), by repeat (first | (with_reducible first | exact HB.out | apply below_alloc | apply pw_below_drewN | apply below_drew1) | exact HB.out)⟩
  · rw [if_neg c3] at H
    have c3b0 : decide (a0 < 1) = false := decide_eq_false c3
    clear c3
    by_cases c4 : a0 > 8
    · rw [if_pos c4] at H
      have c4b0 : decide (8 < a0) = true := decide_eq_true c4
      clear c4
      obtain rfl := Option.some.inj H
      go_enter Tryd.func45, Tryd.ntmps45
      go_wp2
      go_ret
      exact ⟨by first | rfl | (simp [errW_none, errW_some] <;> rfl) | (simp [*, errW_none, errW_some] <;> rfl), by repeat (first | (with_reducible first | exact HB.out | apply below_alloc | apply pw_below_drewN | apply below_drew1) | exact HB.out)⟩
    · rw [if_neg c4] at H
      have c4b0 : decide (8 < a0) = false := decide_eq_false c4
      clear c4
      replace H := Option.bind_eq_some_iff.mp H
      obtain ⟨t256, A50, H⟩ := H
      replace H : (some t256) = some r := H
      have A5 := Aside0.mk A50
      clear A50
      obtain rfl := Option.some.inj H
      go_enter Tryd.func45, Tryd.ntmps45
      go_wp2_with (first | ((with_reducible refine gate_callee (f := 30) rfl ?_); refine goesL_ (some 13) rfl rfl Tryd.func30 (by kernel_rfl) rfl #[.int .i64 a0, .slice A1 l1.length c1] rfl (by (try simp only [List.map_toArray, List.map_cons, List.map_nil]); first | done | rfl | (simp only [List.length_drop, List.length_take]; rfl)) ?_; (with_reducible refine (drovewayref05_List.calls k a0 _ _ l1 t256 _ ?side1 ?side2 A5.out).mono ?_); (case side1 => repeat (first | exact HR1.out | (with_reducible refine Kd.C_alloc ?_ _) | (with_reducible refine Kd.C_drewN ?_ _) | (with_reducible refine Kd.C_drew ?_))); (case side2 => exact HC1.out); rintro e w6 ⟨rfl, hb⟩; refine ⟨_, rfl, ?_⟩; have n0_ := Aside0.mk (below_step (by repeat (first | (with_reducible first | exact HB.out | apply below_alloc | apply pw_below_drewN | apply below_drew1) | exact HB.out)) hb); clear HB; have HB := n0_; clear n0_; (try clear hb); (try clear hb2); (try clear hk); (try clear hi)))
      go_ret
      exact ⟨by first | rfl | (simp [errW_none, errW_some] <;> rfl) | (simp [*, errW_none, errW_some] <;> rfl), by repeat (first | (with_reducible first | exact HB.out | apply below_alloc | apply pw_below_drewN | apply below_drew1) | exact HB.out)⟩

-- NOT PRINTED: function 50 (drovewayref05_parts)

end
end Go.Proofs.YtdbbcngmnpejnaaDoor.B

/- few, same, IsTriple, List, given: what they answer, plain. -/
namespace Go.Proofs.YtdbbcngmnpejnaaDoor.B
open Go.Proofs.YtdbbcngmnpejnaaDoor.A
open Go.RowKit Go.Proofs.YtdbbcngmnpejnaaDoorW.PrintWords Go.Proofs.YtdbbcngmnpejnaaDoorW.PrintMore

theorem s44_ext {a b : S44} : a = b ↔ a.f0 = b.f0 ∧ a.f1 = b.f1 ∧ a.f2 = b.f2 := by
  obtain ⟨a0, a1, a2⟩ := a
  obtain ⟨b0, b1, b2⟩ := b
  simp
instance : DecidableEq S44 := fun _ _ => decidable_of_iff _ s44_ext.symm
theorem few_calls (A : Option Addr) (c : Nat) (l : List S44) (s : ByteArray) (w : World) (hr : Kd.C k44 w A l.length l) (hc : l.length ≤ c) :
    Calls Tryd.prog 16 #[.slice A l.length c, .string s] w fun e w' => e = .returned (.bool (decide (l.length ≤ 100 ∧ s.size ≤ 100))) ∧ Below w.heap.size w w' := by
  refine (drovewaylaw05_few.calls A c l s (decide (l.length ≤ 100 ∧ s.size ≤ 100)) w hr hc ?_).mono fun _ _ ⟨p, q⟩ => ⟨p, q.below⟩
  unfold drovewaylaw05_few.f
  by_cases h : l.length ≤ 100
  · rw [if_pos (by omega)]
    congr 1
    simp only [decide_eq_decide]
    omega
  · rw [if_neg (by omega), decide_eq_false (fun h2 => h h2.1)]
theorem triple_some (n : Int) (t : S44) : drovewayref05_IsTriple.f n t.f0 t.f1 t.f2 = some (okTri n t) := by
  unfold drovewayref05_IsTriple.f okTri
  by_cases h1 : 0 ≤ t.f0
  · rw [if_pos h1, decide_eq_true h1]
    by_cases h2 : t.f0 < t.f1
    · rw [if_pos h2, decide_eq_true h2]
      by_cases h3 : t.f1 < n
      · rw [if_pos h3, decide_eq_true h3]
        by_cases h4 : 0 ≤ t.f2
        · rw [if_pos h4, decide_eq_true h4]
          by_cases h5 : t.f2 < n
          · rw [if_pos h5, decide_eq_true h5]
            by_cases h6 : t.f2 = t.f0
            · rw [if_pos h6, decide_eq_false (show ¬ t.f2 ≠ t.f0 from fun h => h h6)]; rfl
            · rw [if_neg h6, decide_eq_true (show t.f2 ≠ t.f0 from h6)]
              by_cases h7 : t.f2 = t.f1
              · rw [decide_eq_false (show ¬ t.f2 ≠ t.f1 from fun h => h h7), bne_eq_false_iff_eq.mpr h7]; rfl
              · rw [decide_eq_true (show t.f2 ≠ t.f1 from h7), bne_iff_ne.mpr h7]; rfl
          · rw [if_neg h5, decide_eq_false h5]; rfl
        · rw [if_neg h4, decide_eq_false h4]; rfl
      · rw [if_neg h3, decide_eq_false h3]; rfl
    · rw [if_neg h2, decide_eq_false h2]; rfl
  · rw [if_neg h1, decide_eq_false h1]; rfl
theorem IsTriple_calls (n : Int) (t : S44) (w : World) : Calls Tryd.prog 31 #[.int .i64 n, .agg #[.int .i64 t.f0, .int .i64 t.f1, .int .i64 t.f2]] w fun e w' => e = .returned (.bool (okTri n t)) ∧ Below w.heap.size w w' :=
  drovewayref05_IsTriple.calls n _ _ _ _ w (triple_some n t)
theorem list_loop (n : Int) (l : List S44) (hl : l.length ≤ 60) : ∀ d i : Nat, i + d = l.length → drovewayref05_List.l0 (d + 1) n l (i : Int) = some (if (l.drop i).all (okTri n) = true then 0 else 2)
  | 0, i, h => by
    rw [drovewayref05_List.l0, if_neg (by omega), List.drop_of_length_le (by omega)]
    rfl
  | d + 1, i, h => by
    have hi : i < l.length := by omega
    have hw : wrap64 ((i : Int) + 1) = ((i + 1 : Nat) : Int) := by unfold wrap64; omega
    have hrd : rd_T44 l (i : Int) = l[i] := by simp only [rd_T44, Int.toNat_natCast, List.getD_eq_getElem?_getD, List.getElem?_eq_getElem hi, Option.getD_some]
    rw [drovewayref05_List.l0, if_pos (by omega), if_pos (by omega), hrd, triple_some, Option.bind_some, hw, list_loop n l hl d (i + 1) (by omega), List.drop_eq_getElem_cons hi, List.all_cons]
    cases okTri n l[i] with
    | true => rw [if_pos rfl, Bool.true_and]
    | false => rw [if_neg Bool.false_ne_true, Bool.false_and, if_neg Bool.false_ne_true]
theorem list_some (n : Int) (l : List S44) : ∃ k, drovewayref05_List.f k n l = some (listE n l) := by
  unfold drovewayref05_List.f listE
  by_cases h : 60 < l.length
  · exact ⟨0, by rw [if_pos (by omega), if_pos h]⟩
  · refine ⟨l.length + 1, ?_⟩
    rw [if_neg (by omega), if_neg h]
    have := list_loop n l (by omega) l.length 0 (by omega)
    rw [List.drop_zero] at this
    exact this
theorem List_calls (n : Int) (A : Option Addr) (c : Nat) (l : List S44) (w : World) (hr : Kd.C k44 w A l.length l) (hc : l.length ≤ c) :
    Calls Tryd.prog 30 #[.int .i64 n, .slice A l.length c] w fun e w' => e = .returned (.int .i64 (listE n l)) ∧ Below w.heap.size w w' := by
  obtain ⟨k, hk⟩ := list_some n l
  exact drovewayref05_List.calls k n A c l _ w hr hc hk
theorem same_loop (l m : List S44) (hl : l.length = m.length) (hb : l.length ≤ 9223372036854775807) : ∀ d i : Nat, i + d = l.length → drovewaylaw05_same.l0 (d + 1) l m (i : Int) = some (decide (l.drop i = m.drop i))
  | 0, i, h => by
    rw [drovewaylaw05_same.l0, if_neg (by omega), List.drop_of_length_le (by omega), List.drop_of_length_le (by omega)]
    rfl
  | d + 1, i, h => by
    have hi : i < l.length := by omega
    have hi2 : i < m.length := by omega
    have hw : wrap64 ((i : Int) + 1) = ((i + 1 : Nat) : Int) := by unfold wrap64; omega
    have hrd : rd_T44 l (i : Int) = l[i] := by simp only [rd_T44, Int.toNat_natCast, List.getD_eq_getElem?_getD, List.getElem?_eq_getElem hi, Option.getD_some]
    have hrd2 : rd_T44 m (i : Int) = m[i] := by simp only [rd_T44, Int.toNat_natCast, List.getD_eq_getElem?_getD, List.getElem?_eq_getElem hi2, Option.getD_some]
    rw [drovewaylaw05_same.l0, if_pos (by omega), if_pos (by omega), if_pos (by omega), hrd, hrd2, hw, same_loop l m hl hb d (i + 1) (by omega), List.drop_eq_getElem_cons hi, List.drop_eq_getElem_cons hi2]
    generalize l[i] = a
    generalize m[i] = b
    by_cases e : a = b
    · subst e
      rw [if_neg (by simp)]
      congr 1
      simp
    · have e2 := fun h => e (s44_ext.mpr h)
      rw [if_pos (by
        rw [Bool.or_eq_true, Bool.or_eq_true, Bool.not_eq_true', Bool.not_eq_true', Bool.not_eq_true', beq_eq_false_iff_ne, beq_eq_false_iff_ne, beq_eq_false_iff_ne]
        by_cases e3 : a.f0 = b.f0
        · by_cases e4 : a.f1 = b.f1
          · by_cases e5 : a.f2 = b.f2
            · exact absurd ⟨e3, e4, e5⟩ e2
            · exact .inr (.inr e5)
          · exact .inr (.inl e4)
        · exact .inl e3), decide_eq_false (by intro h; injection h with h1 h2; exact e h1)]
theorem same_calls (A : Option Addr) (c : Nat) (l : List S44) (A2 : Option Addr) (c2 : Nat) (m : List S44) (w : World) (hr : Kd.C k44 w A l.length l) (hc : l.length ≤ c) (hr2 : Kd.C k44 w A2 m.length m) (hc2 : m.length ≤ c2) :
    Calls Tryd.prog 23 #[.slice A l.length c, .slice A2 m.length c2] w fun e w' => e = .returned (.bool (decide (l = m))) ∧ Below w.heap.size w w' := by
  refine (drovewaylaw05_same.calls (l.length + 1) A c l A2 c2 m (decide (l = m)) w hr hc hr2 hc2 ?_).mono fun _ _ ⟨p, q⟩ => ⟨p, q.below⟩
  unfold drovewaylaw05_same.f
  by_cases h : l.length = m.length
  · have := same_loop l m h (by have := hr.2.1; omega) l.length 0 (by omega)
    rw [List.drop_zero, List.drop_zero] at this
    rw [if_pos (by omega)]
    exact this
  · rw [if_neg (by omega), decide_eq_false (fun e => h (by rw [e]))]
end Go.Proofs.YtdbbcngmnpejnaaDoor.B

/- The reference's ascending, as the kit's print writes it. -/
namespace Go.Proofs.YtdbbcngmnpejnaaDoor.B
open Go.Proofs.YtdbbcngmnpejnaaDoor.A
open Go.RowKit Go.Proofs.YtdbbcngmnpejnaaDoorW.PrintWords Go.Proofs.YtdbbcngmnpejnaaDoorW.PrintLast Go.Proofs.YtdbbcngmnpejnaaDoorW.PrintMore
section
attribute [local go_sem] max2_int min2_int max_two min_two max_three min_three max_four min_four   -- for this text's walks alone
set_option linter.unusedVariables false
set_option linter.unusedSimpArgs false
/-! ### drovewayref05_ascending: function 51 -/
mutual
def drovewayref05_ascending.l0 : Nat → List Int → List Int → Int → Option (List Int)
  | 0, _, _, _ => none
  | k + 1, x0, x3, x4 => if x4 < (x0.length : Int) then (if 0 ≤ x4 then (if x3.length < 17592186044416 then ((some (x3 ++ [rd x0 x4] : List Int)).bind fun y262 => (drovewayref05_ascending.l1 k x0 y262 x4 (wrap64 ((y262.length : Int) - 1)))) else (none)) else (none)) else (some x3)
def drovewayref05_ascending.l1 : Nat → List Int → List Int → Int → Int → Option (List Int)
  | 0, _, _, _, _ => none
  | k + 1, x0, x3, x4, x5 => if x5 > 0 then (if 0 ≤ x5 then (if x5 < (x3.length : Int) then (if 0 ≤ (wrap64 (x5 - 1)) then (if (wrap64 (x5 - 1)) < (x3.length : Int) then (if (rd x3 x5) < (rd x3 (wrap64 (x5 - 1))) then (drovewayref05_ascending.l1 k x0 ((x3.set (x5 : Int).toNat (rd x3 (wrap64 (x5 - 1)))).set ((wrap64 (x5 - 1)) : Int).toNat (rd x3 x5)) x4 (wrap64 (x5 - 1))) else (drovewayref05_ascending.l0 k x0 x3 (wrap64 (x4 + 1)))) else (none)) else (none)) else (none)) else (none)) else (drovewayref05_ascending.l0 k x0 x3 (wrap64 (x4 + 1)))
end
def drovewayref05_ascending.f (k : Nat) (l0 : List Int) : Option (List Int) := drovewayref05_ascending.l0 k l0 ([] : List Int) 0
theorem drovewayref05_ascending.mono_l : ∀ k, (∀ y0 y1 y2, LeO (drovewayref05_ascending.l0 k y0 y1 y2) (drovewayref05_ascending.l0 (k + 1) y0 y1 y2)) ∧ (∀ y0 y1 y2 y3, LeO (drovewayref05_ascending.l1 k y0 y1 y2 y3) (drovewayref05_ascending.l1 (k + 1) y0 y1 y2 y3))
  | 0 => ⟨fun _ _ _ r h => by simp [drovewayref05_ascending.l0] at h, fun _ _ _ _ r h => by simp [drovewayref05_ascending.l1] at h⟩
  | k + 1 => by
    obtain ⟨ih0, ih1⟩ := drovewayref05_ascending.mono_l k
    refine ⟨?_, ?_⟩
    · intro y0 y1 y2
      unfold drovewayref05_ascending.l0
      repeat' first
      | (with_reducible exact ih0 _ _ _)
      | (with_reducible exact ih1 _ _ _ _)
      | (with_reducible exact LeO.refl _)
      | (with_reducible exact LeO.none _)
      | (with_reducible refine LeO.ite ?_ ?_)
      | (with_reducible refine LeO.bind ?_ (fun _ => ?_))
      | exact ih0 _ _ _
      | exact ih1 _ _ _ _
      | exact LeO.none _
      | refine LeO.ite ?_ ?_
      | refine LeO.bind ?_ (fun _ => ?_)
    · intro y0 y1 y2 y3
      unfold drovewayref05_ascending.l1
      repeat' first
      | (with_reducible exact ih0 _ _ _)
      | (with_reducible exact ih1 _ _ _ _)
      | (with_reducible exact LeO.refl _)
      | (with_reducible exact LeO.none _)
      | (with_reducible refine LeO.ite ?_ ?_)
      | (with_reducible refine LeO.bind ?_ (fun _ => ?_))
      | exact ih0 _ _ _
      | exact ih1 _ _ _ _
      | exact LeO.none _
      | refine LeO.ite ?_ ?_
      | refine LeO.bind ?_ (fun _ => ?_)
theorem drovewayref05_ascending.mono : ∀ a0 k, LeO (drovewayref05_ascending.f k a0) (drovewayref05_ascending.f (k + 1) a0) := by
  intro a0 k
  obtain ⟨ih0, ih1⟩ := drovewayref05_ascending.mono_l k
  unfold drovewayref05_ascending.f
  repeat' first
      | (with_reducible exact ih0 _ _ _)
      | (with_reducible exact ih1 _ _ _ _)
      | (with_reducible exact LeO.refl _)
      | (with_reducible exact LeO.none _)
      | (with_reducible refine LeO.ite ?_ ?_)
      | (with_reducible refine LeO.bind ?_ (fun _ => ?_))
      | exact ih0 _ _ _
      | exact ih1 _ _ _ _
      | exact LeO.none _
      | refine LeO.ite ?_ ?_
      | refine LeO.bind ?_ (fun _ => ?_)
set_option maxHeartbeats 8000000 in
set_option maxRecDepth 100000 in
theorem drovewayref05_ascending.calls (k : Nat) (A0 : Option Addr) (c0 : Nat) (l0 : List Int) (r : List Int) (w : World) (hr0 : Kd.C (Kd.int .i64) w A0 l0.length l0) (hc0 : l0.length ≤ c0) (h : drovewayref05_ascending.f k l0 = some r) :
    Calls Tryd.prog 51 #[.slice A0 l0.length c0] w fun e w' => ∃ v0_ : Value, e = .returned (v0_) ∧ Kd.R (Kd.int .i64) 3 w' w.heap.size (fun _ => True) v0_ r ∧ Below w.heap.size w w' := by
  have HR0 := Aside0.mk hr0
  have HC0 := Aside0.mk hc0
  clear hr0 hc0
  have HB := Aside0.mk (Below.refl w.heap.size w)
  have H : (drovewayref05_ascending.l0 k l0 ([] : List Int) 0) = some r := h
  clear h
  have H' := Aside0.mk H
  clear H
  go_enter Tryd.func51, Tryd.ntmps51
  go_wp2
  repeat (go_quiet (fail); try go_wp2)
  go_loopg [3, 4] k (fun kq v3 v4 w' => ∃ (x3_1 : List Int) (x4_1 : Int), v4 = .int .i64 x4_1 ∧ Aside0 (drovewayref05_ascending.l0 kq l0 x3_1 x4_1 = some r) ∧ Aside0 (kq ≤ k) ∧ Aside0 (Kd.R (Kd.int .i64) 3 w' w.heap.size (fun _ => True) v3 x3_1) ∧ Aside0 (Below w.heap.size w w'))
  case atStart => exact ⟨(([] : List Int)), (0), (by first | rfl | (simp; done) | (simp [*]; done)), H', ⟨Nat.le_refl _⟩, ⟨by first | exact Kd.R_nil _ _ _ _ _ | exact Kd.N_nil _ _ _ _ _ | exact Kd.V_nil _ _ _ _ _ | exact Kd.Q_nil _ _ _ _ _ | exact Kd.S_nil _ _ _ _ _⟩, ⟨by repeat (first | (with_reducible first | exact HB.out | apply below_alloc | apply pw_below_drewN | apply below_drew1) | exact HB.out)⟩⟩
  case round =>
    clear H'
    obtain ⟨x3_1, x4_1, rfl, HA, HK1, HO_3, HB⟩ := hrel
    cases gk with
    | zero => exact absurd HA.out (by simp [drovewayref05_ascending.l0])
    | succ k1 =>
      have H := HA.out
      clear HA
      simp only [drovewayref05_ascending.l0] at H
      by_cases c2 : x4_1 < (l0.length : Int)
      · rw [if_pos c2] at H
        have c2b0 : decide (x4_1 < (l0.length : Int)) = true := decide_eq_true c2
        clear c2
        by_cases c3 : 0 ≤ x4_1
        · rw [if_pos c3] at H
          have c3b0 : decide (0 ≤ x4_1) = true := decide_eq_true c3
          clear c3
          by_cases c4 : x3_1.length < 17592186044416
          · rw [if_pos c4] at H
            have LMc4 := Aside0.mk c4
            clear c4
            obtain ⟨y262, hy262⟩ : ∃ y_ : List Int, y_ = (x3_1 ++ [rd l0 x4_1]) := ⟨_, rfl⟩
            replace H : (drovewayref05_ascending.l1 k1 l0 y262 x4_1 (wrap64 ((y262.length : Int) - 1))) = some r := by first | (rw [hy262]; with_reducible exact H) | (have H2_ := (Option.bind_some _ _).symm.trans H; rw [hy262]; with_reducible exact H2_) | (have H2_ := (Option.bind_some _ _).symm.trans H; with_reducible exact H2_) | with_reducible exact H | (rw [hy262]; exact H) | exact H
            have Ny262 := Aside0.mk hy262
            clear hy262
            have H' := Aside0.mk H
            clear H
            have p261 : 0 ≤ (x4_1 : Int) := of_decide_eq_true (by first | (with_reducible assumption) | assumption)
            have q261 : x4_1 < (l0.length : Int) := of_decide_eq_true (by first | (with_reducible assumption) | assumption)
            obtain ⟨ad261, e261, hx261_0⟩ := Kd.at_int HR0.out x4_1 p261 q261
            cases e261
            replace hx261_0 := (HB.out.cell (World.block_lt_of_cell? w _ hx261_0)).trans hx261_0
            replace p261 := eq_true p261
            replace q261 := eq_true q261
            go_wp2_with (first | ((with_reducible refine gate_builtin (b := .append) (xs := #[.tmp 13, .tmp 18]) rfl ?_); at_builtin; refine Kd.R_append (Kd.int .i64) (w0 := w) w.heap.size rfl (.tmp 13) (.tmp 18) 32 3 (.int .i64 0) 8 rfl Tryd.underlying32 info3 rfl (by decide) (by omega) u3 x3_1 (rd l0 x4_1) [.int .i64 (rd l0 x4_1)] (fun _ => True) (fun _ => False) rfl rfl ?aP (fun _ hk => hk.elim) ?aF ?aO ?aB ?aS ?aL ?_; (case aP => exact rfl); (case aB => exact (by repeat (first | (with_reducible first | exact HB.out | apply below_alloc | apply pw_below_drewN | apply below_drew1) | exact HB.out))); (case aF => exact (fun _ _ => trivial)); (case aO => exact (by (with_reducible repeat (first | apply Kd.R_alloc | apply Kd.R_drewN | apply Kd.R_drew)); exact HO_3.out)); (case aS => exact (below_size (by repeat (first | (with_reducible first | exact HB.out | apply below_alloc | apply pw_below_drewN | apply below_drew1) | exact HB.out)))); (case aL => have := LMc4.out; omega); intro v263 w5 ho hb hg hat; rw [← Ny262.out] at ho; have n0_ := Aside0.mk (hb); have n1_ := Aside0.mk (ho); clear HB; clear HO_3; have HB := n0_; have HO264 := n1_; clear n0_ n1_; clear ho hb hg hat; obtain ⟨Ao6, co6, eo6⟩ := Kd.R_slice HO264.out; subst eo6))
            repeat (go_quiet (first | ((with_reducible refine gate_builtin (b := .append) (xs := #[.tmp 13, .tmp 18]) rfl ?_); at_builtin; refine Kd.R_append (Kd.int .i64) (w0 := w) w.heap.size rfl (.tmp 13) (.tmp 18) 32 3 (.int .i64 0) 8 rfl Tryd.underlying32 info3 rfl (by decide) (by omega) u3 x3_1 (rd l0 x4_1) [.int .i64 (rd l0 x4_1)] (fun _ => True) (fun _ => False) rfl rfl ?aP (fun _ hk => hk.elim) ?aF ?aO ?aB ?aS ?aL ?_; (case aP => exact rfl); (case aB => exact (by repeat (first | (with_reducible first | exact HB.out | apply below_alloc | apply pw_below_drewN | apply below_drew1) | exact HB.out))); (case aF => exact (fun _ _ => trivial)); (case aO => exact (by (with_reducible repeat (first | apply Kd.R_alloc | apply Kd.R_drewN | apply Kd.R_drew)); exact HO_3.out)); (case aS => exact (below_size (by repeat (first | (with_reducible first | exact HB.out | apply below_alloc | apply pw_below_drewN | apply below_drew1) | exact HB.out)))); (case aL => have := LMc4.out; omega); intro v263 w5 ho hb hg hat; rw [← Ny262.out] at ho; have n0_ := Aside0.mk (hb); have n1_ := Aside0.mk (ho); clear HB; clear HO_3; have HB := n0_; have HO264 := n1_; clear n0_ n1_; clear ho hb hg hat; obtain ⟨Ao6, co6, eo6⟩ := Kd.R_slice HO264.out; subst eo6)); try go_wp2_with (first | ((with_reducible refine gate_builtin (b := .append) (xs := #[.tmp 13, .tmp 18]) rfl ?_); at_builtin; refine Kd.R_append (Kd.int .i64) (w0 := w) w.heap.size rfl (.tmp 13) (.tmp 18) 32 3 (.int .i64 0) 8 rfl Tryd.underlying32 info3 rfl (by decide) (by omega) u3 x3_1 (rd l0 x4_1) [.int .i64 (rd l0 x4_1)] (fun _ => True) (fun _ => False) rfl rfl ?aP (fun _ hk => hk.elim) ?aF ?aO ?aB ?aS ?aL ?_; (case aP => exact rfl); (case aB => exact (by repeat (first | (with_reducible first | exact HB.out | apply below_alloc | apply pw_below_drewN | apply below_drew1) | exact HB.out))); (case aF => exact (fun _ _ => trivial)); (case aO => exact (by (with_reducible repeat (first | apply Kd.R_alloc | apply Kd.R_drewN | apply Kd.R_drew)); exact HO_3.out)); (case aS => exact (below_size (by repeat (first | (with_reducible first | exact HB.out | apply below_alloc | apply pw_below_drewN | apply below_drew1) | exact HB.out)))); (case aL => have := LMc4.out; omega); intro v263 w5 ho hb hg hat; rw [← Ny262.out] at ho; have n0_ := Aside0.mk (hb); have n1_ := Aside0.mk (ho); clear HB; clear HO_3; have HB := n0_; have HO264 := n1_; clear n0_ n1_; clear ho hb hg hat; obtain ⟨Ao6, co6, eo6⟩ := Kd.R_slice HO264.out; subst eo6)))
            go_loopg [5] k1 (fun kq v5 w' => ∃ (x3_2 : List Int) (x5_2 : Int), v5 = .int .i64 x5_2 ∧ Aside0 (drovewayref05_ascending.l1 kq l0 x3_2 x4_1 x5_2 = some r) ∧ Aside0 (kq ≤ k1) ∧ Aside0 (Kd.R (Kd.int .i64) 3 w' w.heap.size (fun _ => True) (.slice Ao6 y262.length co6) x3_2) ∧ Aside0 (Below w.heap.size w w'))
            case atStart => exact ⟨(y262), (wrap64 ((y262.length : Int) - 1)), (by first | rfl | (simp; done) | (simp [*]; done)), H', ⟨Nat.le_refl _⟩, ⟨by (with_reducible repeat (first | apply Kd.R_alloc | apply Kd.R_drewN | apply Kd.R_drew)); exact HO264.out⟩, ⟨by repeat (first | (with_reducible first | exact HB.out | apply below_alloc | apply pw_below_drewN | apply below_drew1) | exact HB.out)⟩⟩
            case round =>
              clear H'
              try clear c2
              try clear c2b0
              try clear p2
              try clear q2
              try clear hx2
              try clear c3
              try clear c3b0
              try clear c4
              try clear c5
              try clear p6
              try clear hx261_0
              try clear p261
              try clear q261
              obtain ⟨x3_2, x5_2, rfl, HA, HK2, HO_3, HB⟩ := hrel
              have hl3_2 := (Kd.R_reads' HO_3.out).1
              rw [hl3_2] at HO_3
              (try simp only [hl3_2])
              cases gk with
              | zero => exact absurd HA.out (by simp [drovewayref05_ascending.l1])
              | succ k2 =>
                have H := HA.out
                clear HA
                simp only [drovewayref05_ascending.l1] at H
                by_cases c7 : x5_2 > 0
                · rw [if_pos c7] at H
                  have c7b0 : decide (0 < x5_2) = true := decide_eq_true c7
                  clear c7
                  by_cases c8 : 0 ≤ x5_2
                  · rw [if_pos c8] at H
                    have c8b0 : decide (0 ≤ x5_2) = true := decide_eq_true c8
                    clear c8
                    by_cases c9 : x5_2 < (x3_2.length : Int)
                    · rw [if_pos c9] at H
                      have c9b0 : decide (x5_2 < (x3_2.length : Int)) = true := decide_eq_true c9
                      clear c9
                      obtain ⟨ji10, hji10⟩ : ∃ j_ : Int, (wrap64 (x5_2 - 1)) = j_ := ⟨_, rfl⟩
                      replace H : (if 0 ≤ (ji10) then (if (ji10) < (x3_2.length : Int) then (if (rd x3_2 x5_2) < (rd x3_2 (ji10)) then (drovewayref05_ascending.l1 k2 l0 ((x3_2.set (x5_2 : Int).toNat (rd x3_2 (ji10))).set ((ji10) : Int).toNat (rd x3_2 x5_2)) x4_1 ji10) else (drovewayref05_ascending.l0 k2 l0 x3_2 (wrap64 (x4_1 + 1)))) else (none)) else (none)) = some r := by first | (rw [hji10] at H; exact H) | (simp only [hji10] at H ⊢; exact H)
                      have hji10w : (IntKind.i64.wrap (x5_2 - 1)) = ji10 := (i64_w _).trans hji10
                      by_cases c11 : 0 ≤ (ji10)
                      · rw [if_pos c11] at H
                        have c11b0 : decide (0 ≤ (ji10)) = true := decide_eq_true c11
                        clear c11
                        by_cases c12 : (ji10) < (x3_2.length : Int)
                        · rw [if_pos c12] at H
                          have c12b0 : decide ((ji10) < (x3_2.length : Int)) = true := decide_eq_true c12
                          clear c12
                          by_cases c13 : (rd x3_2 x5_2) < (rd x3_2 (ji10))
                          · rw [if_pos c13] at H
                            have c13b0 : decide ((rd x3_2 x5_2) < (rd x3_2 (ji10))) = true := decide_eq_true c13
                            clear c13
                            obtain ⟨y269, hy269⟩ : ∃ y_ : List Int, y_ = (x3_2.set (x5_2 : Int).toNat (rd x3_2 (ji10))) := ⟨_, rfl⟩
                            replace H : (drovewayref05_ascending.l1 k2 l0 (y269.set ((ji10) : Int).toNat (rd x3_2 x5_2)) x4_1 ji10) = some r := by first | (rw [hy269]; with_reducible exact H) | (have H2_ := (Option.bind_some _ _).symm.trans H; rw [hy269]; with_reducible exact H2_) | (have H2_ := (Option.bind_some _ _).symm.trans H; with_reducible exact H2_) | with_reducible exact H | (rw [hy269]; exact H) | exact H
                            have Ny269 := Aside0.mk hy269
                            clear hy269
                            obtain ⟨y270, hy270⟩ : ∃ y_ : List Int, y_ = (y269.set ((ji10) : Int).toNat (rd x3_2 x5_2)) := ⟨_, rfl⟩
                            replace H : (drovewayref05_ascending.l1 k2 l0 y270 x4_1 ji10) = some r := by first | (rw [hy270]; with_reducible exact H) | (have H2_ := (Option.bind_some _ _).symm.trans H; rw [hy270]; with_reducible exact H2_) | (have H2_ := (Option.bind_some _ _).symm.trans H; with_reducible exact H2_) | with_reducible exact H | (rw [hy270]; exact H) | exact H
                            have Ny270 := Aside0.mk hy270
                            clear hy270
                            have H' := Aside0.mk H
                            clear H
                            have p265 : 0 ≤ (x5_2 : Int) := of_decide_eq_true (by first | (with_reducible assumption) | assumption)
                            have q265 : x5_2 < (x3_2.length : Int) := of_decide_eq_true (by first | (with_reducible assumption) | assumption)
                            obtain ⟨ad265, e265, hx265_0⟩ := Kd.at_int (Kd.R_reads' HO_3.out).2.2 x5_2 p265 q265
                            cases e265
                            replace p265 := eq_true p265
                            replace q265 := eq_true q265
                            have p266 : 0 ≤ ((ji10) : Int) := of_decide_eq_true (by first | (with_reducible assumption) | assumption)
                            have q266 : (ji10) < (x3_2.length : Int) := of_decide_eq_true (by first | (with_reducible assumption) | assumption)
                            obtain ⟨ad266, e266, hx266_0⟩ := Kd.at_int (Kd.R_reads' HO_3.out).2.2 (ji10) p266 q266
                            obtain rfl : ad265 = ad266 := (by injection e266)
                            replace p266 := eq_true p266
                            replace q266 := eq_true q266
                            have p267 : 0 ≤ (x5_2 : Int) := of_decide_eq_true (by first | (with_reducible assumption) | assumption)
                            have q267 : x5_2 < (x3_2.length : Int) := of_decide_eq_true (by first | (with_reducible assumption) | assumption)
                            obtain ⟨ad267, e267, hx267_0⟩ := Kd.at_int (Kd.R_reads' HO_3.out).2.2 x5_2 p267 q267
                            obtain rfl : ad265 = ad267 := (by injection e267)
                            replace p267 := eq_true p267
                            replace q267 := eq_true q267
                            have p268 : 0 ≤ ((ji10) : Int) := of_decide_eq_true (by first | (with_reducible assumption) | assumption)
                            have q268 : (ji10) < (x3_2.length : Int) := of_decide_eq_true (by first | (with_reducible assumption) | assumption)
                            obtain ⟨ad268, e268, hx268_0⟩ := Kd.at_int (Kd.R_reads' HO_3.out).2.2 (ji10) p268 q268
                            obtain rfl : ad265 = ad268 := (by injection e268)
                            replace p268 := eq_true p268
                            replace q268 := eq_true q268
                            have p14 : 0 ≤ (x5_2 : Int) := of_decide_eq_true (by first | (with_reducible assumption) | assumption)
                            have q14 : (x5_2 : Int) < ((x3_2.length : Int) : Int) := of_decide_eq_true (by first | (with_reducible assumption) | assumption)
                            obtain ⟨go14, co14, eo14, gb14, gl14, cl14, HG14⟩ := Kd.R_form HO_3.out (by omega)
                            (first | cases eo14 | (injection eo14 with ea_ en_ ec_; (first | subst ea_ | (injection ea_ with ea_; subst ea_)); subst ec_; clear en_))
                            have GB14 := Aside0.mk gb14
                            have GG14 := Aside0.mk HG14
                            clear gb14 gl14 HG14
                            (first | simp only [add_plain] at hx265_0 | skip)
                            (first | simp only [add_plain] at hx266_0 | skip)
                            (first | simp only [add_plain] at hx267_0 | skip)
                            (first | simp only [add_plain] at hx268_0 | skip)
                            obtain ⟨hx14_0, hf14_0⟩ := Kd.R_celln 0 HO_3.out (x5_2 : Int) p14 q14
                            replace p14 := eq_true p14
                            replace q14 := eq_true q14
                            have HP16 := Kd.R_putg HO_3.out (x5_2 : Int) (rd x3_2 (ji10))
                            go_wp2_with (first | ((with_reducible refine gate_store (t := 3) (p := 50) rfl ?_); (try (rw [drewN_self wr]; generalize hq_ : World.drewN wr _ = wr; have n0_ := Aside0.mk (Kd.R_at hq_ HO_3.out); have n1_ := Aside0.mk (below_at hq_ HB.out); clear hq_ HO_3 HB; have HO_3 := n0_; have HB := n1_; clear n0_ n1_; (try (have HP16 := Kd.R_putg HO_3.out (x5_2 : Int) (rd x3_2 (ji10)))); (try (obtain ⟨hxq_, hfq_⟩ := Kd.R_celln 0 HO_3.out (x5_2 : Int) (of_decide_eq_true (by first | (with_reducible assumption) | assumption)) (of_decide_eq_true (by first | (with_reducible assumption) | assumption)))))); refine store_event (t := 3) (p := 50) (v := ?vo_w17) (w1 := (wr.setCell ⟨go14, (x5_2 : Int).toNat, none⟩ (.int .i64 (rd x3_2 (ji10))))) ?hg ?ho ?hn ?hr ?_; (case ho => rfl); (case hg => rfl); (case hn => rfl); (case hr => first | (go_simp; done) | (go_simp; rfl)); intro w17 hw; have hg : wr.grownBy w17 (some go14) := (by rw [hw]; exact HP16.2); have hp_ : Kd.R (Kd.int .i64) 3 w17 w.heap.size (fun _ => True) (.slice (some ⟨go14, 0, none⟩) x3_2.length co6) y269 := (by rw [hw, Ny269.out]; exact HP16.1); clear HP16; have n0_ := Aside0.mk (hp_); have n1_ := Aside0.mk ((by rw [hw]; exact below_set (HB.out) GB14.out : Below w.heap.size w w17)); clear HO_3; clear HB; have HO_3 := n0_; have HB := n1_; clear n0_ n1_; clear hg hw hp_; have p15 : 0 ≤ ((ji10) : Int) := of_decide_eq_true (by first | (with_reducible assumption) | assumption); have q15 : ((ji10) : Int) < ((x3_2.length : Int) : Int) := of_decide_eq_true (by first | (with_reducible assumption) | assumption); obtain ⟨hx15_0, hf15_0⟩ := Kd.R_celln 0 HO_3.out ((ji10) : Int) p15 q15; replace p15 := eq_true p15; replace q15 := eq_true q15; obtain ⟨hy18_, hz18_⟩ := Kd.R_celln 0 HO_3.out ((ji10) : Int) (of_decide_eq_true (by first | (with_reducible assumption) | assumption)) (of_decide_eq_true (by first | (with_reducible assumption) | assumption)); have HP18 := Kd.R_putg HO_3.out ((ji10) : Int) (rd x3_2 x5_2)) | ((with_reducible refine gate_store (t := 3) (p := 55) rfl ?_); (try (rw [drewN_self w17]; generalize hq_ : World.drewN w17 _ = w17; have n0_ := Aside0.mk (Kd.R_at hq_ HO_3.out); have n1_ := Aside0.mk (below_at hq_ HB.out); clear hq_ HO_3 HB; have HO_3 := n0_; have HB := n1_; clear n0_ n1_; (try (obtain ⟨hy18_, hz18_⟩ := Kd.R_celln 0 HO_3.out ((ji10) : Int) (of_decide_eq_true (by first | (with_reducible assumption) | assumption)) (of_decide_eq_true (by first | (with_reducible assumption) | assumption)))); (try (have HP18 := Kd.R_putg HO_3.out ((ji10) : Int) (rd x3_2 x5_2))); (try (obtain ⟨hxq_, hfq_⟩ := Kd.R_celln 0 HO_3.out ((ji10) : Int) (of_decide_eq_true (by first | (with_reducible assumption) | assumption)) (of_decide_eq_true (by first | (with_reducible assumption) | assumption)))))); refine store_event (t := 3) (p := 55) (v := ?vo_w19) (w1 := (w17.setCell ⟨go14, ((ji10) : Int).toNat, none⟩ (.int .i64 (rd x3_2 x5_2)))) ?hg ?ho ?hn ?hr ?_; (case ho => rfl); (case hg => rfl); (case hn => rfl); (case hr => first | (go_simp; done) | (go_simp; rfl)); intro w19 hw; have hg : w17.grownBy w19 (some go14) := (by rw [hw]; exact HP18.2); have hp_ : Kd.R (Kd.int .i64) 3 w19 w.heap.size (fun _ => True) (.slice (some ⟨go14, 0, none⟩) x3_2.length co6) y270 := (by rw [hw, Ny270.out]; exact HP18.1); clear HP18; have n0_ := Aside0.mk (hp_); have n1_ := Aside0.mk ((by rw [hw]; exact below_set (HB.out) GB14.out : Below w.heap.size w w19)); clear HO_3; clear HB; have HO_3 := n0_; have HB := n1_; clear n0_ n1_; clear hg hw hp_))
                            repeat (go_quiet (first | ((with_reducible refine gate_store (t := 3) (p := 50) rfl ?_); (try (rw [drewN_self wr]; generalize hq_ : World.drewN wr _ = wr; have n0_ := Aside0.mk (Kd.R_at hq_ HO_3.out); have n1_ := Aside0.mk (below_at hq_ HB.out); clear hq_ HO_3 HB; have HO_3 := n0_; have HB := n1_; clear n0_ n1_; (try (have HP16 := Kd.R_putg HO_3.out (x5_2 : Int) (rd x3_2 (ji10)))); (try (obtain ⟨hxq_, hfq_⟩ := Kd.R_celln 0 HO_3.out (x5_2 : Int) (of_decide_eq_true (by first | (with_reducible assumption) | assumption)) (of_decide_eq_true (by first | (with_reducible assumption) | assumption)))))); refine store_event (t := 3) (p := 50) (v := ?vo_w17) (w1 := (wr.setCell ⟨go14, (x5_2 : Int).toNat, none⟩ (.int .i64 (rd x3_2 (ji10))))) ?hg ?ho ?hn ?hr ?_; (case ho => rfl); (case hg => rfl); (case hn => rfl); (case hr => first | (go_simp; done) | (go_simp; rfl)); intro w17 hw; have hg : wr.grownBy w17 (some go14) := (by rw [hw]; exact HP16.2); have hp_ : Kd.R (Kd.int .i64) 3 w17 w.heap.size (fun _ => True) (.slice (some ⟨go14, 0, none⟩) x3_2.length co6) y269 := (by rw [hw, Ny269.out]; exact HP16.1); clear HP16; have n0_ := Aside0.mk (hp_); have n1_ := Aside0.mk ((by rw [hw]; exact below_set (HB.out) GB14.out : Below w.heap.size w w17)); clear HO_3; clear HB; have HO_3 := n0_; have HB := n1_; clear n0_ n1_; clear hg hw hp_; have p15 : 0 ≤ ((ji10) : Int) := of_decide_eq_true (by first | (with_reducible assumption) | assumption); have q15 : ((ji10) : Int) < ((x3_2.length : Int) : Int) := of_decide_eq_true (by first | (with_reducible assumption) | assumption); obtain ⟨hx15_0, hf15_0⟩ := Kd.R_celln 0 HO_3.out ((ji10) : Int) p15 q15; replace p15 := eq_true p15; replace q15 := eq_true q15; obtain ⟨hy18_, hz18_⟩ := Kd.R_celln 0 HO_3.out ((ji10) : Int) (of_decide_eq_true (by first | (with_reducible assumption) | assumption)) (of_decide_eq_true (by first | (with_reducible assumption) | assumption)); have HP18 := Kd.R_putg HO_3.out ((ji10) : Int) (rd x3_2 x5_2)) | ((with_reducible refine gate_store (t := 3) (p := 55) rfl ?_); (try (rw [drewN_self w17]; generalize hq_ : World.drewN w17 _ = w17; have n0_ := Aside0.mk (Kd.R_at hq_ HO_3.out); have n1_ := Aside0.mk (below_at hq_ HB.out); clear hq_ HO_3 HB; have HO_3 := n0_; have HB := n1_; clear n0_ n1_; (try (obtain ⟨hy18_, hz18_⟩ := Kd.R_celln 0 HO_3.out ((ji10) : Int) (of_decide_eq_true (by first | (with_reducible assumption) | assumption)) (of_decide_eq_true (by first | (with_reducible assumption) | assumption)))); (try (have HP18 := Kd.R_putg HO_3.out ((ji10) : Int) (rd x3_2 x5_2))); (try (obtain ⟨hxq_, hfq_⟩ := Kd.R_celln 0 HO_3.out ((ji10) : Int) (of_decide_eq_true (by first | (with_reducible assumption) | assumption)) (of_decide_eq_true (by first | (with_reducible assumption) | assumption)))))); refine store_event (t := 3) (p := 55) (v := ?vo_w19) (w1 := (w17.setCell ⟨go14, ((ji10) : Int).toNat, none⟩ (.int .i64 (rd x3_2 x5_2)))) ?hg ?ho ?hn ?hr ?_; (case ho => rfl); (case hg => rfl); (case hn => rfl); (case hr => first | (go_simp; done) | (go_simp; rfl)); intro w19 hw; have hg : w17.grownBy w19 (some go14) := (by rw [hw]; exact HP18.2); have hp_ : Kd.R (Kd.int .i64) 3 w19 w.heap.size (fun _ => True) (.slice (some ⟨go14, 0, none⟩) x3_2.length co6) y270 := (by rw [hw, Ny270.out]; exact HP18.1); clear HP18; have n0_ := Aside0.mk (hp_); have n1_ := Aside0.mk ((by rw [hw]; exact below_set (HB.out) GB14.out : Below w.heap.size w w19)); clear HO_3; clear HB; have HO_3 := n0_; have HB := n1_; clear n0_ n1_; clear hg hw hp_)); try go_wp2_with (first | ((with_reducible refine gate_store (t := 3) (p := 50) rfl ?_); (try (rw [drewN_self wr]; generalize hq_ : World.drewN wr _ = wr; have n0_ := Aside0.mk (Kd.R_at hq_ HO_3.out); have n1_ := Aside0.mk (below_at hq_ HB.out); clear hq_ HO_3 HB; have HO_3 := n0_; have HB := n1_; clear n0_ n1_; (try (have HP16 := Kd.R_putg HO_3.out (x5_2 : Int) (rd x3_2 (ji10)))); (try (obtain ⟨hxq_, hfq_⟩ := Kd.R_celln 0 HO_3.out (x5_2 : Int) (of_decide_eq_true (by first | (with_reducible assumption) | assumption)) (of_decide_eq_true (by first | (with_reducible assumption) | assumption)))))); refine store_event (t := 3) (p := 50) (v := ?vo_w17) (w1 := (wr.setCell ⟨go14, (x5_2 : Int).toNat, none⟩ (.int .i64 (rd x3_2 (ji10))))) ?hg ?ho ?hn ?hr ?_; (case ho => rfl); (case hg => rfl); (case hn => rfl); (case hr => first | (go_simp; done) | (go_simp; rfl)); intro w17 hw; have hg : wr.grownBy w17 (some go14) := (by rw [hw]; exact HP16.2); have hp_ : Kd.R (Kd.int .i64) 3 w17 w.heap.size (fun _ => True) (.slice (some ⟨go14, 0, none⟩) x3_2.length co6) y269 := (by rw [hw, Ny269.out]; exact HP16.1); clear HP16; have n0_ := Aside0.mk (hp_); have n1_ := Aside0.mk ((by rw [hw]; exact below_set (HB.out) GB14.out : Below w.heap.size w w17)); clear HO_3; clear HB; have HO_3 := n0_; have HB := n1_; clear n0_ n1_; clear hg hw hp_; have p15 : 0 ≤ ((ji10) : Int) := of_decide_eq_true (by first | (with_reducible assumption) | assumption); have q15 : ((ji10) : Int) < ((x3_2.length : Int) : Int) := of_decide_eq_true (by first | (with_reducible assumption) | assumption); obtain ⟨hx15_0, hf15_0⟩ := Kd.R_celln 0 HO_3.out ((ji10) : Int) p15 q15; replace p15 := eq_true p15; replace q15 := eq_true q15; obtain ⟨hy18_, hz18_⟩ := Kd.R_celln 0 HO_3.out ((ji10) : Int) (of_decide_eq_true (by first | (with_reducible assumption) | assumption)) (of_decide_eq_true (by first | (with_reducible assumption) | assumption)); have HP18 := Kd.R_putg HO_3.out ((ji10) : Int) (rd x3_2 x5_2)) | ((with_reducible refine gate_store (t := 3) (p := 55) rfl ?_); (try (rw [drewN_self w17]; generalize hq_ : World.drewN w17 _ = w17; have n0_ := Aside0.mk (Kd.R_at hq_ HO_3.out); have n1_ := Aside0.mk (below_at hq_ HB.out); clear hq_ HO_3 HB; have HO_3 := n0_; have HB := n1_; clear n0_ n1_; (try (obtain ⟨hy18_, hz18_⟩ := Kd.R_celln 0 HO_3.out ((ji10) : Int) (of_decide_eq_true (by first | (with_reducible assumption) | assumption)) (of_decide_eq_true (by first | (with_reducible assumption) | assumption)))); (try (have HP18 := Kd.R_putg HO_3.out ((ji10) : Int) (rd x3_2 x5_2))); (try (obtain ⟨hxq_, hfq_⟩ := Kd.R_celln 0 HO_3.out ((ji10) : Int) (of_decide_eq_true (by first | (with_reducible assumption) | assumption)) (of_decide_eq_true (by first | (with_reducible assumption) | assumption)))))); refine store_event (t := 3) (p := 55) (v := ?vo_w19) (w1 := (w17.setCell ⟨go14, ((ji10) : Int).toNat, none⟩ (.int .i64 (rd x3_2 x5_2)))) ?hg ?ho ?hn ?hr ?_; (case ho => rfl); (case hg => rfl); (case hn => rfl); (case hr => first | (go_simp; done) | (go_simp; rfl)); intro w19 hw; have hg : w17.grownBy w19 (some go14) := (by rw [hw]; exact HP18.2); have hp_ : Kd.R (Kd.int .i64) 3 w19 w.heap.size (fun _ => True) (.slice (some ⟨go14, 0, none⟩) x3_2.length co6) y270 := (by rw [hw, Ny270.out]; exact HP18.1); clear HP18; have n0_ := Aside0.mk (hp_); have n1_ := Aside0.mk ((by rw [hw]; exact below_set (HB.out) GB14.out : Below w.heap.size w w19)); clear HO_3; clear HB; have HO_3 := n0_; have HB := n1_; clear n0_ n1_; clear hg hw hp_)))
                            (try simp only [← hl3_2])
                            go_roundg k2
                            case measure => have := HK1.out; have := HK2.out; omega
                            case rel => exact ⟨(y270), (ji10), (by first | rfl | (simp; done) | (simp only [← hji10] <;> (first | rfl | simp)) | (simp [*]; done)), H', ⟨by have := HK1.out; have := HK2.out; omega⟩, ⟨by (try simp only [hl3_2]); (with_reducible repeat (first | apply Kd.R_alloc | apply Kd.R_drewN | apply Kd.R_drew)); exact HO_3.out⟩, ⟨by repeat (first | (with_reducible first | exact HB.out | apply below_alloc | apply pw_below_drewN | apply below_drew1) | exact HB.out)⟩⟩
                          · rw [if_neg c13] at H
                            have c13b0 : decide ((rd x3_2 x5_2) < (rd x3_2 (ji10))) = false := decide_eq_false c13
                            clear c13
                            have H' := Aside0.mk H
                            clear H
                            have p265 : 0 ≤ (x5_2 : Int) := of_decide_eq_true (by first | (with_reducible assumption) | assumption)
                            have q265 : x5_2 < (x3_2.length : Int) := of_decide_eq_true (by first | (with_reducible assumption) | assumption)
                            obtain ⟨ad265, e265, hx265_0⟩ := Kd.at_int (Kd.R_reads' HO_3.out).2.2 x5_2 p265 q265
                            cases e265
                            replace p265 := eq_true p265
                            replace q265 := eq_true q265
                            have p266 : 0 ≤ ((ji10) : Int) := of_decide_eq_true (by first | (with_reducible assumption) | assumption)
                            have q266 : (ji10) < (x3_2.length : Int) := of_decide_eq_true (by first | (with_reducible assumption) | assumption)
                            obtain ⟨ad266, e266, hx266_0⟩ := Kd.at_int (Kd.R_reads' HO_3.out).2.2 (ji10) p266 q266
                            obtain rfl : ad265 = ad266 := (by injection e266)
                            replace p266 := eq_true p266
                            replace q266 := eq_true q266
                            go_wp2
                            repeat (go_quiet (fail); try go_wp2)
                            (try simp only [← hl3_2])
                            go_roundg k2
                            case measure => have := HK1.out; have := HK2.out; omega
                            case rel => exact ⟨(x3_2), (wrap64 (x4_1 + 1)), (by first | rfl | (simp; done) | (simp [*]; done)), H', ⟨by have := HK1.out; have := HK2.out; omega⟩, ⟨by (try simp only [hl3_2]); (with_reducible repeat (first | apply Kd.R_alloc | apply Kd.R_drewN | apply Kd.R_drew)); exact HO_3.out⟩, ⟨by repeat (first | (with_reducible first | exact HB.out | apply below_alloc | apply pw_below_drewN | apply below_drew1) | exact HB.out)⟩⟩
                        · rw [if_neg c12] at H
                          exact absurd H (by simp)
                      · rw [if_neg c11] at H
                        exact absurd H (by simp)
                    · rw [if_neg c9] at H
                      exact absurd H (by simp)
                  · rw [if_neg c8] at H
                    exact absurd H (by simp)
                · rw [if_neg c7] at H
                  have c7b0 : decide (0 < x5_2) = false := decide_eq_false c7
                  clear c7
                  have H' := Aside0.mk H
                  clear H
                  go_wp2
                  repeat (go_quiet (fail); try go_wp2)
                  (try simp only [← hl3_2])
                  go_roundg k2
                  case measure => have := HK1.out; have := HK2.out; omega
                  case rel => exact ⟨(x3_2), (wrap64 (x4_1 + 1)), (by first | rfl | (simp; done) | (simp [*]; done)), H', ⟨by have := HK1.out; have := HK2.out; omega⟩, ⟨by (try simp only [hl3_2]); (with_reducible repeat (first | apply Kd.R_alloc | apply Kd.R_drewN | apply Kd.R_drew)); exact HO_3.out⟩, ⟨by repeat (first | (with_reducible first | exact HB.out | apply below_alloc | apply pw_below_drewN | apply below_drew1) | exact HB.out)⟩⟩
          · rw [if_neg c4] at H
            exact absurd H (by simp)
        · rw [if_neg c3] at H
          exact absurd H (by simp)
      · rw [if_neg c2] at H
        have c2b0 : decide (x4_1 < (l0.length : Int)) = false := decide_eq_false c2
        clear c2
        obtain rfl := Option.some.inj H
        go_wp2
        repeat (go_quiet (fail); try go_wp2)
        go_ret
        exact ⟨_, by first | rfl | (simp [errW_none, errW_some] <;> rfl) | (simp [*, errW_none, errW_some] <;> rfl), by (with_reducible repeat (first | apply Kd.R_alloc | apply Kd.R_drewN | apply Kd.R_drew)); exact HO_3.out, by repeat (first | (with_reducible first | exact HB.out | apply below_alloc | apply pw_below_drewN | apply below_drew1) | exact HB.out)⟩

-- NOT PRINTED: function 22 (drovewayref05_Joined)

end
end Go.Proofs.YtdbbcngmnpejnaaDoor.B

/- Aho's theorem, plain: what is built shows its triples; what some tree shows can be built; what can't be built has a knot. -/
namespace Go.Proofs.YtdbbcngmnpejnaaDoor.A

/-- Three different beasts of eight. -/
def Tri3 (x : S44) : Prop := Tri8 x ∧ x.a ≠ x.b ∧ x.c ≠ x.a ∧ x.c ≠ x.b
def shows3 (t : BT) (x : S44) : Bool := showsB t x.a x.b x.c
variable {l : List S44} {s : Nat}
theorem pair_a (x : S44) : (pairN x).testBit x.a = true := by unfold pairN; rw [pair_bit]; simp
theorem pair_b (x : S44) : (pairN x).testBit x.b = true := by unfold pairN; rw [pair_bit]; simp
theorem all_c (x : S44) : (allN x).testBit x.c = true := by unfold allN; rw [Nat.testBit_or, two_bit]; simp
theorem sub_pair {x : S44} {q : Nat} (ha : q.testBit x.a = true) (hb : q.testBit x.b = true) : SubN (pairN x) q := has_iff.mp (has_pair.mpr ⟨ha, hb⟩)
theorem sub_all {x : S44} {q : Nat} (h : SubN (pairN x) q) (hc : q.testBit x.c = true) : SubN (allN x) q := sub_or h fun i hi => by
  rw [two_bit, decide_eq_true_iff] at hi
  rw [← hi]; exact hc
/-- The trees of a tree that is built, one for each part. -/
theorem build_node (hl : ∀ t ∈ l, Tri8 t) {f : Nat} (h0 : s ≠ 0) (h8 : s < 256) {t : BT} (h : buildF l (f + 1) s = some t) (h1 : s &&& (s - 1) ≠ 0) : ∃ ts, t = .node ts ∧ ts.map BT.set = partsF l s ∧ ∀ k ∈ ts, buildF l f k.set = some k := by
  have hg := build_good hl (f + 1) s t h0 h8 h
  rw [buildF, if_neg h1] at h
  by_cases h2 : (partsF l s).length = 1
  · rw [if_pos h2] at h; cases h
  · rw [if_neg h2] at h
    obtain ⟨ts, hts, rfl⟩ := Option.map_eq_some_iff.mp h
    have hP := parts_spec (s := s) hl h8
    have hm := mapO_some.mp hts
    have hp8 : ∀ p ∈ partsF l s, p < 256 := fun p hp => lt_of_bits (k := 8) fun i hi => bit_lt (k := 8) h8 (hP.sub p hp i hi)
    have hset : ts.map BT.set = partsF l s := by
      have hlen : ts.length = (partsF l s).length := by have := congrArg List.length hm; rw [List.length_map, List.length_map] at this; exact this.symm
      refine List.ext_getElem (by rw [List.length_map, hlen]) fun i h1 h2 => ?_
      rw [List.length_map] at h1
      have e := congrArg (fun L => L[i]?) hm
      (try dsimp only at e)
      rw [List.getElem?_map, List.getElem?_map, List.getElem?_eq_getElem h2, List.getElem?_eq_getElem h1] at e
      have e2 := Option.some.inj e
      have hp := List.getElem_mem h2
      rw [List.getElem_map]
      exact (build_good hl f _ _ (hP.ne _ hp) (hp8 _ hp) e2).2
    refine ⟨ts, rfl, hset, fun k hk => ?_⟩
    have : some k ∈ (partsF l s).map (buildF l f) := by rw [hm]; exact List.mem_map.mpr ⟨k, hk, rfl⟩
    obtain ⟨p, hp, e⟩ := List.mem_map.mp this
    rw [(build_good hl f p k (hP.ne p hp) (hp8 p hp) e).2]
    exact e
/-- What is built shows the triples within its set. -/
theorem build_shows (hl : ∀ t ∈ l, Tri3 t) : ∀ f s t, s ≠ 0 → s < 256 → buildF l f s = some t → ∀ x ∈ l, SubN (allN x) s → shows3 t x = true
  | 0, _, _, _, _, h, _, _, _ => by rw [buildF] at h; cases h
  | f + 1, s, t, h0, h8, h, x, hx, hs => by
    have hl8 : ∀ t ∈ l, Tri8 t := fun t ht => (hl t ht).1
    by_cases h1 : s &&& (s - 1) = 0
    · exfalso
      have h2 := (one_iff s h8 h0).mp h1
      have ha := hs _ (pair_sub x _ (pair_a x))
      have hb := hs _ (pair_sub x _ (pair_b x))
      rw [h2, two_bit, decide_eq_true_iff] at ha hb
      exact (hl x hx).2.1 (by omega)
    · obtain ⟨ts, rfl, hset, hk⟩ := build_node hl8 h0 h8 h h1
      have hg := (build_good hl8 (f + 1) s _ h0 h8 h).1
      have hP := parts_spec (s := s) hl8 h8
      obtain ⟨p, hp, hpa⟩ := hP.all x.a (hs _ (pair_sub x _ (pair_a x)))
      have hpp := hP.closed p hp x hx hs (meet_iff.mpr ⟨x.a, pair_a x, hpa⟩)
      rw [← hset] at hp
      obtain ⟨k, hkm, rfl⟩ := List.mem_map.mp hp
      have hka := hpp _ (pair_a x)
      have hkb := hpp _ (pair_b x)
      have hgk := (good_node.mp hg).2.1 k hkm
      cases hc : k.set.testBit x.c with
      | true =>
        unfold shows3
        rw [shows_in hg hkm hka hkb]
        exact build_shows hl f k.set k (good_ne hgk) (good_256 hgk) (hk k hkm) x hx (sub_all hpp hc)
      | false => exact shows_apart hg hkm hka hkb hc
/-- Where a tree of several parts shows the triples within a set, no part of the set lies in two parts of the tree. -/
theorem part_in (hl : ∀ t ∈ l, Tri8 t) {ks : List BT} (hg : (BT.node ks).Good) (h8 : s < 256) (hs : SubN s (BT.node ks).set) (hsh : ∀ x ∈ l, SubN (allN x) s → shows3 (.node ks) x = true) {p : Nat} (hp : p ∈ partsF l s) : ∃ k ∈ ks, SubN p k.set := by
  have hP := parts_spec (s := s) hl h8
  have hp8 : p < 256 := lt_of_bits (k := 8) fun i hi => bit_lt (k := 8) h8 (hP.sub p hp i hi)
  have hlow := low_bit (hP.ne p hp) hp8
  have hls := hP.sub p hp _ hlow
  have hlt := hs _ hls
  rw [set_node, sets_bit] at hlt
  obtain ⟨k, hk, hkl⟩ := hlt
  refine ⟨k, hk, ?_⟩
  have hpw := (good_node.mp hg).2.2
  have hQ : ClosedJ l s (s &&& k.set) := fun x hx hxs hm => by
    obtain ⟨j, hj1, hj2⟩ := meet_iff.mp hm
    rw [Nat.testBit_and, Bool.and_eq_true] at hj2
    have hsx := hsh x hx hxs
    have hsame : ∃ k' ∈ ks, k'.set.testBit x.a = true ∧ k'.set.testBit x.b = true := by
      refine Classical.byContradiction fun hno => ?_
      have := shows_out (ks := ks) (a := x.a) (b := x.b) (c := x.c) (fun k' hk' ha => by
        cases hb : k'.set.testBit x.b with
        | false => rfl
        | true => exact absurd ⟨k', hk', ha, hb⟩ hno) (hs _ (hxs _ (all_c x)))
      unfold shows3 at hsx
      rw [this] at hsx; cases hsx
    obtain ⟨k', hk', ha, hb⟩ := hsame
    have hj3 := sub_pair (x := x) ha hb j hj1
    have e : k' = k := part_one hpw hk' hk hj3 hj2.2
    subst e
    intro i hi
    rw [Nat.testBit_and, hxs i (pair_sub x i hi), sub_pair ha hb i hi]; rfl
  have h := hP.least p hp _ hQ (by rw [Nat.testBit_and, hls, hkl]; rfl)
  intro i hi
  have := h i hi
  rw [Nat.testBit_and, Bool.and_eq_true] at this
  exact this.2
/-- What some tree shows can be built. -/
theorem shows_build (hl : ∀ t ∈ l, Tri8 t) (T : BT) : T.Good → ∀ f s, s ≠ 0 → s < 256 → pcN s 8 < f → SubN s T.set → (∀ x ∈ l, SubN (allN x) s → shows3 T x = true) → buildF l f s ≠ none := by
  refine BT.ind (P := fun T => T.Good → ∀ f s, s ≠ 0 → s < 256 → pcN s 8 < f → SubN s T.set → (∀ x ∈ l, SubN (allN x) s → shows3 T x = true) → buildF l f s ≠ none) (fun i hi f s h0 h8 hf hs _ => ?_) (fun ks ih hg f s h0 h8 hf hs hsh => ?_) T
  · obtain ⟨f, rfl⟩ : ∃ f', f = f' + 1 := ⟨f - 1, by omega⟩
    have e : s = 2 ^ low s := by
      refine Nat.eq_of_testBit_eq fun j => ?_
      have hb := hs _ (low_bit h0 h8)
      rw [set_leaf, two_bit, decide_eq_true_iff] at hb
      rw [two_bit]
      cases h : s.testBit j with
      | true =>
        have := hs j h
        rw [set_leaf, two_bit, decide_eq_true_iff] at this
        rw [decide_eq_true (show low s = j by omega)]
      | false =>
        rw [decide_eq_false]
        intro e
        rw [← e, low_bit h0 h8] at h; cases h
    rw [buildF, if_pos ((one_iff s h8 h0).mpr e)]
    simp
  · obtain ⟨f, rfl⟩ : ∃ f', f = f' + 1 := ⟨f - 1, by omega⟩
    by_cases hin : ∃ k ∈ ks, SubN s k.set
    · obtain ⟨k, hk, hsk⟩ := hin
      refine ih k hk ((good_node.mp hg).2.1 k hk) (f + 1) s h0 h8 hf hsk fun x hx hxs => ?_
      have := hsh x hx hxs
      unfold shows3 at this ⊢
      rwa [shows_in hg hk (hsk _ (hxs _ (pair_sub x _ (pair_a x)))) (hsk _ (hxs _ (pair_sub x _ (pair_b x))))] at this
    · have hP := parts_spec (s := s) hl h8
      have hn1 : s &&& (s - 1) ≠ 0 := fun e => by
        have e2 := (one_iff s h8 h0).mp e
        have hb := hs _ (low_bit h0 h8)
        rw [set_node, sets_bit] at hb
        obtain ⟨k, hk, hkl⟩ := hb
        refine hin ⟨k, hk, fun i hi => ?_⟩
        rw [e2, two_bit, decide_eq_true_iff] at hi
        rw [← hi]; exact hkl
      have hn2 : (partsF l s).length ≠ 1 := fun e => by
        obtain ⟨p, hp⟩ := List.length_eq_one_iff.mp e
        obtain ⟨k, hk, hpk⟩ := part_in hl hg h8 hs hsh (p := p) (by rw [hp]; exact List.mem_cons_self)
        refine hin ⟨k, hk, fun i hi => ?_⟩
        obtain ⟨q, hq, hqi⟩ := hP.all i hi
        rw [hp, List.mem_singleton] at hq
        rw [hq] at hqi
        exact hpk i hqi
      rw [buildF, if_neg hn1, if_neg hn2]
      intro hno
      have hno2 : mapO (buildF l f) (partsF l s) = none := by
        cases h : mapO (buildF l f) (partsF l s) with
        | none => rfl
        | some ts => rw [h] at hno; cases hno
      obtain ⟨p, hp, hpn⟩ := mapO_none.mp hno2
      have hp8 : p < 256 := lt_of_bits (k := 8) fun i hi => bit_lt (k := 8) h8 (hP.sub p hp i hi)
      obtain ⟨k, hk, hpk⟩ := part_in hl hg h8 hs hsh hp
      have hpc := part_less hl h8 hp hn2
      refine ih k hk ((good_node.mp hg).2.1 k hk) f p (hP.ne p hp) hp8 (by omega) hpk (fun x hx hxp => ?_) hpn
      have := hsh x hx (hxp.trans (hP.sub p hp))
      unfold shows3 at this ⊢
      rwa [shows_in hg hk (hpk _ (hxp _ (pair_sub x _ (pair_a x)))) (hpk _ (hxp _ (pair_sub x _ (pair_b x))))] at this
end Go.Proofs.YtdbbcngmnpejnaaDoor.A

/- slices.IndexFunc and slices.ContainsFunc over triples; breed.shows and breed.Shows, walked. (Printed by gen_d17.py.) -/
namespace Go.Proofs.YtdbbcngmnpejnaaDoor.B
open Go.Proofs.YtdbbcngmnpejnaaDoor.A
open Go.RowKit Go.Proofs.YtdbbcngmnpejnaaDoorW.PrintWords Go.Proofs.YtdbbcngmnpejnaaDoorW.PrintMore

def enc44 (t : S44) : Value := .agg #[.int .i64 t.f0, .int .i64 t.f1, .int .i64 t.f2]
/-- A function value that answers p at each element of a list, in every world in which all that lay in w lies unturned. -/
def PredB (g : Nat) (lb : Array Value) (p : S44 → Bool) (l : List S44) (w : World) : Prop :=
  ∀ (W : World) (x : S44), x ∈ l → Below w.heap.size w W → Calls Tryd.prog g (#[enc44 x] ++ lb) W fun e w' => e = .returned (.bool (p x)) ∧ Below w.heap.size w w'
set_option maxHeartbeats 2000000 in
set_option maxRecDepth 100000 in
theorem IndexFunc_tri (g : Nat) (lb : Array Value) (p : S44 → Bool) (eg : ∀ args w, (callFunc g args).run Tryd.prog w = .ok (.enter g args) w)
    (A : Option Addr) (n c : Nat) (l : List S44) (w : World) (hr : Kd.C k44 w A n l) (hp : PredB g lb p l w) :
    Calls Tryd.prog 75 #[.slice A n c, .func (.func g) #[] lb] w fun e w' => (∃ i : Int, e = .returned (.int .i64 i) ∧ Aside0 ((i = -1 ∧ ∀ j, j < n → p (l.getD j z44) = false) ∨ ∃ k : Nat, i = k ∧ k < n ∧ p (l.getD k z44) = true ∧ ∀ j, j < k → p (l.getD j z44) = false)) ∧ Below w.heap.size w w' := by
  have hlen : l.length = n := hr.1
  have hmax : n ≤ 9223372036854775807 := by have := hr.2.1; omega
  have HR := Aside0.mk hr
  have HP := Aside0.mk hp
  have HL := Aside0.mk hlen
  clear hr hp hlen
  go_enter Tryd.func75, Tryd.ntmps75
  go_wp2
  go_loopg [5, 8] n (fun gg _ s8 wr => ∃ kk : Nat, kk ≤ n ∧ n - kk ≤ gg ∧ s8 = .int .i64 kk ∧ Aside0 (Below w.heap.size w wr) ∧ Aside0 (∀ j, j < kk → p (l.getD j z44) = false))
  case atStart => exact ⟨0, Nat.zero_le _, by omega, rfl, ⟨Below.refl _ w⟩, ⟨fun j hj => absurd hj (Nat.not_lt_zero _)⟩⟩
  case round =>
    obtain ⟨kk, hkk, hg, rfl, BW, AF⟩ := hrel
    by_cases hlt : kk < n
    · have hltz : (kk : Int) < (n : Int) := by omega
      obtain ⟨ad, rfl, hx0, hx1, hx2⟩ := at_T44 (Kd.C_below HR.out BW.out) (kk : Int) (by omega) (by omega)
      rw [Int.toNat_natCast] at hx0 hx1 hx2
      have hrd : rd_T44 l (kk : Int) = l.getD kk z44 := by simp only [rd_T44, Int.toNat_natCast]
      rw [hrd] at hx0 hx1 hx2
      have hcall := HP.out wr (l.getD kk z44) (getD_mem z44 (by rw [HL.out]; exact hlt)) BW.out
      clear hrd
      generalize hy : l.getD kk z44 = y at hx0 hx1 hx2 hcall
      have B := Aside0.mk hy
      clear hy
      unfold enc44 at hcall
      cases hq : p y with
      | true =>
        rw [hq] at hcall
        go_wp2_with (go_at_fn g; refine hcall.mono ?_; rintro e w' ⟨rfl, hb'⟩)
        go_ret
        exact ⟨⟨kk, rfl, ⟨Or.inr ⟨kk, rfl, hlt, by rw [B.out]; exact hq, AF.out⟩⟩⟩, hb'⟩
      | false =>
        rw [hq] at hcall
        go_wp2_with (go_at_fn g; refine hcall.mono ?_; rintro e w' ⟨rfl, hb'⟩)
        go_roundg (n - (kk + 1))
        case measure => omega
        case rel =>
          refine ⟨kk + 1, by omega, by omega, by go_num, ⟨hb'⟩, ⟨fun j hj => ?_⟩⟩
          by_cases e : j = kk
          · subst e
            rw [B.out]; exact hq
          · exact AF.out j (by omega)
    · have hltz : ¬ (kk : Int) < (n : Int) := by omega
      have : kk = n := by omega
      subst this
      go_wp2
      go_ret
      exact ⟨⟨-1, rfl, ⟨Or.inl ⟨rfl, AF.out⟩⟩⟩, BW.out⟩
theorem enters75 (args : Array Value) (w : World) : (callFunc 75 args).run Tryd.prog w = .ok (.enter 75 args) w := by kernel_rfl
theorem enters58 (args : Array Value) (w : World) : (callFunc 58 args).run Tryd.prog w = .ok (.enter 58 args) w := by kernel_rfl
theorem enters65 (args : Array Value) (w : World) : (callFunc 65 args).run Tryd.prog w = .ok (.enter 65 args) w := by kernel_rfl
theorem ContainsFunc_tri (g : Nat) (lb : Array Value) (p : S44 → Bool) (eg : ∀ args w, (callFunc g args).run Tryd.prog w = .ok (.enter g args) w)
    (A : Option Addr) (n c : Nat) (l : List S44) (w : World) (hr : Kd.C k44 w A n l) (hp : PredB g lb p l w) :
    Calls Tryd.prog 57 #[.slice A n c, .func (.func g) #[] lb] w fun e w' => e = .returned (.bool (l.any p)) ∧ Below w.heap.size w w' := by
  have H := Aside0.mk (IndexFunc_tri g lb p eg A n c l w hr hp)
  have HL := Aside0.mk hr.1
  clear hr hp eg
  go_enter Tryd.func57, Tryd.ntmps57
  go_wp2_with (go_at_call 75; refine H.out.mono ?_; rintro e w' ⟨⟨i, rfl, hi⟩, hb'⟩)
  go_ret
  refine ⟨?_, hb'⟩
  rcases hi.out with ⟨rfl, h⟩ | ⟨k, rfl, hk, hpk, _⟩
  · rw [any_miss z44 (fun j hj => h j (by rw [← HL.out]; exact hj))]; rfl
  · rw [any_hit z44 (by rw [HL.out]; exact hk) hpk]
    show Ending.returned (.bool (decide ((k : Int) ≥ 0))) = _
    rw [decide_eq_true (by omega)]

/-! ### shows -/
def showsT (t : BT) (x : S44) : Bool := showsB t x.a x.b x.c
theorem and_one (q c : Nat) (hq : q < 256) : bits .and .i64 ((q : Int) / 2 ^ c) 1 = if q.testBit c = true then 1 else 0 := by
  have e : ((q : Int) / 2 ^ c) = ((q / 2 ^ c : Nat) : Int) := by rw [two_cast, ← Int.natCast_ediv]
  have hle : q / 2 ^ c < 256 := Nat.lt_of_le_of_lt (Nat.div_le_self _ _) hq
  rw [e]
  have h := and_cast (b := 1) hle (by decide)
  rw [show ((1 : Int)) = ((1 : Nat) : Int) from rfl, h, Nat.and_one_is_mod, Nat.testBit_eq_decide_div_mod_eq]
  by_cases h2 : q / 2 ^ c % 2 = 1
  · rw [decide_eq_true h2, if_pos rfl, h2]
  · rw [decide_eq_false h2, if_neg Bool.false_ne_true]; omega
set_option maxRecDepth 100000 in
set_option maxHeartbeats 3200000 in
theorem shows_calls (t : BT) (hg : t.Good) (x : S44) (hx : Tri8 x) (ok : Nat → Prop) (v : Value) (W : World) (hv : TrV W ok v t) :
    Calls Tryd.prog 59 #[v, enc44 x] W fun e w' => e = .returned (.bool (showsT t x)) ∧ Below W.heap.size W w' := by
  obtain ⟨Z, hZ⟩ : ∃ Z, showsT t x = Z := ⟨_, rfl⟩
  rw [hZ]
  unfold showsT showsB at hZ
  obtain ⟨ha8, hb8, hc8⟩ := tri_lt hx
  obtain ⟨⟨h00, _⟩, ⟨h10, _⟩, ⟨h20, _⟩⟩ := hx
  obtain ⟨t0, t1, t2⟩ := x
  unfold enc44
  dsimp only at h00 h10 h20 ⊢
  obtain ⟨a, rfl⟩ := Int.eq_ofNat_of_zero_le h00
  obtain ⟨b, rfl⟩ := Int.eq_ofNat_of_zero_le h10
  obtain ⟨c, rfl⟩ := Int.eq_ofNat_of_zero_le h20
  have ea : S44.a ⟨(a : Int), (b : Int), (c : Int)⟩ = a := rfl
  have eb : S44.b ⟨(a : Int), (b : Int), (c : Int)⟩ = b := rfl
  have ec : S44.c ⟨(a : Int), (b : Int), (c : Int)⟩ = c := rfl
  rw [ea] at ha8
  rw [eb] at hb8
  rw [ec] at hc8
  rw [ea, eb, ec] at hZ
  have hij : 2 ^ a ||| 2 ^ b < 256 := Nat.or_lt_two_pow (n := 8) (two_256 ha8) (two_256 hb8)
  have hor := low_or (two_256 ha8) (two_256 hb8)
  have HCM : Aside0 (∀ (w : World), Below W.heap.size W w → Calls Tryd.prog 69 #[v, .int .i64 ((2 ^ a ||| 2 ^ b : Nat) : Int)] w fun e w' => e = .returned (.int .i64 ((BT.common (2 ^ a ||| 2 ^ b) t : Nat) : Int)) ∧ Below w.heap.size w w') := ⟨fun w hb => common_calls _ hij t hg _ v w (hv.below hb : TrV w ok v t)⟩
  have hwa := wrap_two ha8
  have hwb := wrap_two hb8
  have hq8 : BT.common (2 ^ a ||| 2 ^ b) t < 256 := lt_of_bits (k := 8) fun i hi => good_lt hg i (common_sub i hi)
  have hand := and_one (BT.common (2 ^ a ||| 2 ^ b) t) c hq8
  clear hij hg hv ea eb ec h00 h10 h20
  generalize ((2 ^ a ||| 2 ^ b : Nat) : Int) = pr at HCM hor
  generalize BT.common (2 ^ a ||| 2 ^ b) t = q at HCM hand hZ hq8
  generalize ((2 ^ a : Nat) : Int) = XA at hwa hor
  generalize ((2 ^ b : Nat) : Int) = XB at hwb hor
  have hqi : (0 : Int) ≤ (q : Int) := by omega
  go_enter Tryd.func59, Tryd.ntmps59
  go_upto_region 1 with fail
  have HNEW : Aside0 ((W.alloc (.cells #[.int .i64 (a : Int), .int .i64 (b : Int), .int .i64 (c : Int)] 44)).heap[W.heap.size]? = some (.cells #[.int .i64 (a : Int), .int .i64 (b : Int), .int .i64 (c : Int)] 44 (0, 0))) := ⟨heap_alloc_new W _⟩
  have HB4 : Aside0 (Below W.heap.size W (W.alloc (.cells #[.int .i64 (a : Int), .int .i64 (b : Int), .int .i64 (c : Int)] 44))) := ⟨(Below.refl _ _).alloc (Nat.le_refl _) _⟩
  generalize W.alloc (.cells #[.int .i64 (a : Int), .int .i64 (b : Int), .int .i64 (c : Int)] 44) = w4 at HNEW HB4 ⊢
  generalize hgb : W.heap.size = gb at HNEW ⊢
  clear hgb
  obtain ⟨c0, c1, c2, _⟩ := cells3 HNEW.out
  cases hbit : q.testBit c with
  | true =>
    rw [hbit, if_pos rfl] at hand
    have HZ : Aside0 (false = Z) := ⟨by rw [← hZ, hbit]; rfl⟩
    clear hZ hbit
    refine wp_region_noPanic ?_
    refine wp_region_held_drew (S := fun w' => w'.cell? ⟨gb, 0, none⟩ = some (.int .i64 (a : Int)) ∧ w'.cell? ⟨gb, 1, none⟩ = some (.int .i64 (b : Int)) ∧ w'.cell? ⟨gb, 2, none⟩ = some (.int .i64 (c : Int))) (by kernel_rfl) (⟨c0, c1, c2⟩) (fun hHeld => ?_)
    refine H_on 0 5 ?vs0 rfl rfl (by kernel_rfl) (by kernel_rfl) (by kernel_rfl) (by rfl) ?hs0 hHeld ?rs0
    case hs0 => (intro w hSw; obtain ⟨s0, s1, s2⟩ := hSw; go_simp <;> with_reducible rfl)
    simp only [Act.put, List.setIfInBounds_toArray, List.set_cons_zero, List.set_cons_succ]
    refine H_on 1 6 ?vs1 rfl rfl (by kernel_rfl) (by kernel_rfl) (by kernel_rfl) (by rfl) ?hs1 hHeld ?rs1
    case hs1 => (intro w hSw; obtain ⟨s0, s1, s2⟩ := hSw; go_simp <;> with_reducible rfl)
    simp only [Act.put, List.setIfInBounds_toArray, List.set_cons_zero, List.set_cons_succ]
    refine H_on 2 7 ?vs2 rfl rfl (by kernel_rfl) (by kernel_rfl) (by kernel_rfl) (by rfl) ?hs2 hHeld ?rs2
    case hs2 => (intro w hSw; obtain ⟨s0, s1, s2⟩ := hSw; go_simp <;> with_reducible rfl)
    simp only [Act.put, List.setIfInBounds_toArray, List.set_cons_zero, List.set_cons_succ]
    refine H_on 3 8 ?vs3 rfl rfl (by kernel_rfl) (by kernel_rfl) (by kernel_rfl) (by rfl) ?hs3 hHeld ?rs3
    case hs3 => (intro w hSw; obtain ⟨s0, s1, s2⟩ := hSw; go_simp <;> with_reducible rfl)
    simp only [Act.put, List.setIfInBounds_toArray, List.set_cons_zero, List.set_cons_succ]
    refine H_on 4 9 ?vs4 rfl rfl (by kernel_rfl) (by kernel_rfl) (by kernel_rfl) (by rfl) ?hs4 hHeld ?rs4
    case hs4 => (intro w hSw; obtain ⟨s0, s1, s2⟩ := hSw; go_simp <;> with_reducible rfl)
    simp only [Act.put, List.setIfInBounds_toArray, List.set_cons_zero, List.set_cons_succ]
    refine H_on 5 10 ?vs5 rfl rfl (by kernel_rfl) (by kernel_rfl) (by kernel_rfl) (by rfl) ?hs5 hHeld ?rs5
    case hs5 => (intro w hSw; obtain ⟨s0, s1, s2⟩ := hSw; go_simp <;> with_reducible rfl)
    simp only [Act.put, List.setIfInBounds_toArray, List.set_cons_zero, List.set_cons_succ]
    refine H_on 6 11 ?vs6 rfl rfl (by kernel_rfl) (by kernel_rfl) (by kernel_rfl) (by rfl) ?hs6 hHeld ?rs6
    case hs6 => (intro w hSw; obtain ⟨s0, s1, s2⟩ := hSw; go_simp <;> with_reducible rfl)
    simp only [Act.put, List.setIfInBounds_toArray, List.set_cons_zero, List.set_cons_succ]
    refine H_on 7 12 ?vs7 rfl rfl (by kernel_rfl) (by kernel_rfl) (by kernel_rfl) (by rfl) ?hs7 hHeld ?rs7
    case hs7 => (intro w hSw; obtain ⟨s0, s1, s2⟩ := hSw; go_simp <;> with_reducible rfl)
    simp only [Act.put, List.setIfInBounds_toArray, List.set_cons_zero, List.set_cons_succ]
    refine H_on 9 14 ?vs9 rfl rfl (by kernel_rfl) (by kernel_rfl) (by kernel_rfl) (by rfl) ?hs9 hHeld ?rs9
    case hs9 => (intro w hSw; obtain ⟨s0, s1, s2⟩ := hSw; go_simp <;> with_reducible rfl)
    simp only [Act.put, List.setIfInBounds_toArray, List.set_cons_zero, List.set_cons_succ]
    refine H_on 10 15 ?vs10 rfl rfl (by kernel_rfl) (by kernel_rfl) (by kernel_rfl) (by rfl) ?hs10 hHeld ?rs10
    case hs10 => (intro w hSw; obtain ⟨s0, s1, s2⟩ := hSw; go_simp <;> with_reducible rfl)
    simp only [Act.put, List.setIfInBounds_toArray, List.set_cons_zero, List.set_cons_succ]
    refine wpAnyH_ready (rs := [8]) (by kernel_rfl) (by simp) ?_
    refine AllReadyH.cons rfl (fun K hK => ?_) AllReadyH.nil
    go_simp
    refine (HCM.out _ (below_drew HB4.out)).mono ?_
    rintro e w5 ⟨rfl, hb5⟩
    have hN5 := hb5.block gb (by have := blk_lt HNEW.out; exact this)
    have HN5 : Aside0 (w5.heap[gb]? = some (.cells #[.int .i64 (a : Int), .int .i64 (b : Int), .int .i64 (c : Int)] 44 (0, 0))) := ⟨hN5.trans HNEW.out⟩
    have HB6 : Aside0 (Below W.heap.size W w5) := ⟨below_then (below_drew HB4.out) (below_drew HB4.out).size hb5⟩
    clear hb5 hN5
    obtain ⟨d0, d1, d2, _⟩ := cells3 HN5.out
    go_wp2_with fail
    refine hK.out _ _ (⟨d0, d1, d2⟩) (fun hHeld => ?_)
    clear hK K
    try simp only [Act.put, List.setIfInBounds_toArray, List.set_cons_zero, List.set_cons_succ]
    refine H_on 11 16 ?vs11 rfl rfl (by kernel_rfl) (by kernel_rfl) (by kernel_rfl) (by rfl) ?hs11 hHeld ?rs11
    case hs11 => (intro w hSw; obtain ⟨s0, s1, s2⟩ := hSw; go_simp <;> with_reducible rfl)
    simp only [Act.put, List.setIfInBounds_toArray, List.set_cons_zero, List.set_cons_succ]
    refine H_on 12 17 ?vs12 rfl rfl (by kernel_rfl) (by kernel_rfl) (by kernel_rfl) (by rfl) ?hs12 hHeld ?rs12
    case hs12 => (intro w hSw; obtain ⟨s0, s1, s2⟩ := hSw; go_simp <;> with_reducible rfl)
    simp only [Act.put, List.setIfInBounds_toArray, List.set_cons_zero, List.set_cons_succ]
    refine H_on 13 18 ?vs13 rfl rfl (by kernel_rfl) (by kernel_rfl) (by kernel_rfl) (by rfl) ?hs13 hHeld ?rs13
    case hs13 => (intro w hSw; obtain ⟨s0, s1, s2⟩ := hSw; go_simp <;> with_reducible rfl)
    simp only [Act.put, List.setIfInBounds_toArray, List.set_cons_zero, List.set_cons_succ]
    refine H_on 14 4 ?vs14 rfl rfl (by kernel_rfl) (by kernel_rfl) (by kernel_rfl) (by rfl) ?hs14 hHeld ?rs14
    case hs14 => (intro w hSw; obtain ⟨s0, s1, s2⟩ := hSw; go_simp <;> with_reducible rfl)
    simp only [Act.put, List.setIfInBounds_toArray, List.set_cons_zero, List.set_cons_succ]
    refine wpAnyH_done (by kernel_rfl) ?_ _
    refine NoPanic.normal ?_
    clear hHeld
    go_wp2
    go_ret
    exact ⟨by rw [← HZ.out]; rfl, HB6.out⟩
  | false =>
    rw [hbit, if_neg Bool.false_ne_true] at hand
    have HZ : Aside0 (true = Z) := ⟨by rw [← hZ, hbit]; rfl⟩
    clear hZ hbit
    refine wp_region_noPanic ?_
    refine wp_region_held_drew (S := fun w' => w'.cell? ⟨gb, 0, none⟩ = some (.int .i64 (a : Int)) ∧ w'.cell? ⟨gb, 1, none⟩ = some (.int .i64 (b : Int)) ∧ w'.cell? ⟨gb, 2, none⟩ = some (.int .i64 (c : Int))) (by kernel_rfl) (⟨c0, c1, c2⟩) (fun hHeld => ?_)
    refine H_on 0 5 ?vu0 rfl rfl (by kernel_rfl) (by kernel_rfl) (by kernel_rfl) (by rfl) ?hu0 hHeld ?ru0
    case hu0 => (intro w hSw; obtain ⟨s0, s1, s2⟩ := hSw; go_simp <;> with_reducible rfl)
    simp only [Act.put, List.setIfInBounds_toArray, List.set_cons_zero, List.set_cons_succ]
    refine H_on 1 6 ?vu1 rfl rfl (by kernel_rfl) (by kernel_rfl) (by kernel_rfl) (by rfl) ?hu1 hHeld ?ru1
    case hu1 => (intro w hSw; obtain ⟨s0, s1, s2⟩ := hSw; go_simp <;> with_reducible rfl)
    simp only [Act.put, List.setIfInBounds_toArray, List.set_cons_zero, List.set_cons_succ]
    refine H_on 2 7 ?vu2 rfl rfl (by kernel_rfl) (by kernel_rfl) (by kernel_rfl) (by rfl) ?hu2 hHeld ?ru2
    case hu2 => (intro w hSw; obtain ⟨s0, s1, s2⟩ := hSw; go_simp <;> with_reducible rfl)
    simp only [Act.put, List.setIfInBounds_toArray, List.set_cons_zero, List.set_cons_succ]
    refine H_on 3 8 ?vu3 rfl rfl (by kernel_rfl) (by kernel_rfl) (by kernel_rfl) (by rfl) ?hu3 hHeld ?ru3
    case hu3 => (intro w hSw; obtain ⟨s0, s1, s2⟩ := hSw; go_simp <;> with_reducible rfl)
    simp only [Act.put, List.setIfInBounds_toArray, List.set_cons_zero, List.set_cons_succ]
    refine H_on 4 9 ?vu4 rfl rfl (by kernel_rfl) (by kernel_rfl) (by kernel_rfl) (by rfl) ?hu4 hHeld ?ru4
    case hu4 => (intro w hSw; obtain ⟨s0, s1, s2⟩ := hSw; go_simp <;> with_reducible rfl)
    simp only [Act.put, List.setIfInBounds_toArray, List.set_cons_zero, List.set_cons_succ]
    refine H_on 5 10 ?vu5 rfl rfl (by kernel_rfl) (by kernel_rfl) (by kernel_rfl) (by rfl) ?hu5 hHeld ?ru5
    case hu5 => (intro w hSw; obtain ⟨s0, s1, s2⟩ := hSw; go_simp <;> with_reducible rfl)
    simp only [Act.put, List.setIfInBounds_toArray, List.set_cons_zero, List.set_cons_succ]
    refine H_on 6 11 ?vu6 rfl rfl (by kernel_rfl) (by kernel_rfl) (by kernel_rfl) (by rfl) ?hu6 hHeld ?ru6
    case hu6 => (intro w hSw; obtain ⟨s0, s1, s2⟩ := hSw; go_simp <;> with_reducible rfl)
    simp only [Act.put, List.setIfInBounds_toArray, List.set_cons_zero, List.set_cons_succ]
    refine H_on 7 12 ?vu7 rfl rfl (by kernel_rfl) (by kernel_rfl) (by kernel_rfl) (by rfl) ?hu7 hHeld ?ru7
    case hu7 => (intro w hSw; obtain ⟨s0, s1, s2⟩ := hSw; go_simp <;> with_reducible rfl)
    simp only [Act.put, List.setIfInBounds_toArray, List.set_cons_zero, List.set_cons_succ]
    refine H_on 9 14 ?vu9 rfl rfl (by kernel_rfl) (by kernel_rfl) (by kernel_rfl) (by rfl) ?hu9 hHeld ?ru9
    case hu9 => (intro w hSw; obtain ⟨s0, s1, s2⟩ := hSw; go_simp <;> with_reducible rfl)
    simp only [Act.put, List.setIfInBounds_toArray, List.set_cons_zero, List.set_cons_succ]
    refine H_on 10 15 ?vu10 rfl rfl (by kernel_rfl) (by kernel_rfl) (by kernel_rfl) (by rfl) ?hu10 hHeld ?ru10
    case hu10 => (intro w hSw; obtain ⟨s0, s1, s2⟩ := hSw; go_simp <;> with_reducible rfl)
    simp only [Act.put, List.setIfInBounds_toArray, List.set_cons_zero, List.set_cons_succ]
    refine wpAnyH_ready (rs := [8]) (by kernel_rfl) (by simp) ?_
    refine AllReadyH.cons rfl (fun K hK => ?_) AllReadyH.nil
    go_simp
    refine (HCM.out _ (below_drew HB4.out)).mono ?_
    rintro e w5 ⟨rfl, hb5⟩
    have hN5 := hb5.block gb (by have := blk_lt HNEW.out; exact this)
    have HN5 : Aside0 (w5.heap[gb]? = some (.cells #[.int .i64 (a : Int), .int .i64 (b : Int), .int .i64 (c : Int)] 44 (0, 0))) := ⟨hN5.trans HNEW.out⟩
    have HB6 : Aside0 (Below W.heap.size W w5) := ⟨below_then (below_drew HB4.out) (below_drew HB4.out).size hb5⟩
    clear hb5 hN5
    obtain ⟨d0, d1, d2, _⟩ := cells3 HN5.out
    go_wp2_with fail
    refine hK.out _ _ (⟨d0, d1, d2⟩) (fun hHeld => ?_)
    clear hK K
    try simp only [Act.put, List.setIfInBounds_toArray, List.set_cons_zero, List.set_cons_succ]
    refine H_on 11 16 ?vu11 rfl rfl (by kernel_rfl) (by kernel_rfl) (by kernel_rfl) (by rfl) ?hu11 hHeld ?ru11
    case hu11 => (intro w hSw; obtain ⟨s0, s1, s2⟩ := hSw; go_simp <;> with_reducible rfl)
    simp only [Act.put, List.setIfInBounds_toArray, List.set_cons_zero, List.set_cons_succ]
    refine H_on 12 17 ?vu12 rfl rfl (by kernel_rfl) (by kernel_rfl) (by kernel_rfl) (by rfl) ?hu12 hHeld ?ru12
    case hu12 => (intro w hSw; obtain ⟨s0, s1, s2⟩ := hSw; go_simp <;> with_reducible rfl)
    simp only [Act.put, List.setIfInBounds_toArray, List.set_cons_zero, List.set_cons_succ]
    refine H_on 13 18 ?vu13 rfl rfl (by kernel_rfl) (by kernel_rfl) (by kernel_rfl) (by rfl) ?hu13 hHeld ?ru13
    case hu13 => (intro w hSw; obtain ⟨s0, s1, s2⟩ := hSw; go_simp <;> with_reducible rfl)
    simp only [Act.put, List.setIfInBounds_toArray, List.set_cons_zero, List.set_cons_succ]
    refine H_on 14 4 ?vu14 rfl rfl (by kernel_rfl) (by kernel_rfl) (by kernel_rfl) (by rfl) ?hu14 hHeld ?ru14
    case hu14 => (intro w hSw; obtain ⟨s0, s1, s2⟩ := hSw; go_simp <;> with_reducible rfl)
    simp only [Act.put, List.setIfInBounds_toArray, List.set_cons_zero, List.set_cons_succ]
    refine wpAnyH_done (by kernel_rfl) ?_ _
    refine NoPanic.normal ?_
    clear hHeld
    go_wp2
    go_ret
    exact ⟨by rw [← HZ.out]; rfl, HB6.out⟩
end Go.Proofs.YtdbbcngmnpejnaaDoor.B

/- The closures of Shows and Triples; breed.Shows, IsTree and Joined, walked. (Printed by gen_d18.py.) -/
namespace Go.Proofs.YtdbbcngmnpejnaaDoor.B
open Go.Proofs.YtdbbcngmnpejnaaDoor.A
open Go.RowKit Go.Proofs.YtdbbcngmnpejnaaDoorW.PrintWords Go.Proofs.YtdbbcngmnpejnaaDoorW.PrintMore

set_option maxRecDepth 100000 in
set_option maxHeartbeats 3200000 in
theorem clo58_calls (t : BT) (hg : t.Good) (l : List S44) (hl : ∀ x ∈ l, Tri8 x) (b8 g cap : Nat) (T : TypeId) (u : Value) (ok : Nat → Prop) (w : World) (h8 : w.cell? ⟨b8, 0, none⟩ = some (.slice (some ⟨g, 0, none⟩) 1 cap)) (hc : w.cell? ⟨g, 0, none⟩ = some (.iface T u)) (hv : TrV w ok (.iface T u) t) :
    PredB 58 #[.pointer (some ⟨b8, 0, none⟩)] (fun x => !showsT t x) l w := by
  intro W x hx hb
  have HL8 : Aside0 (b8 < w.heap.size) := ⟨World.block_lt_of_cell? w _ h8⟩
  have HLG : Aside0 (g < w.heap.size) := ⟨World.block_lt_of_cell? w _ hc⟩
  have H8 := Aside0.mk h8
  have HG := Aside0.mk hc
  have HS : Aside0 (∀ w1, Below w.heap.size w w1 → Calls Tryd.prog 59 #[.iface T u, enc44 x] w1 fun e w' => e = .returned (.bool (showsT t x)) ∧ Below w1.heap.size w1 w') := ⟨fun w1 h => shows_calls t hg x (hl x hx) ok _ w1 (hv.below h)⟩
  have HBW := Aside0.mk hb
  clear hx hb h8 hc hv
  show Calls Tryd.prog 58 #[enc44 x, .pointer (some ⟨b8, 0, none⟩)] W fun e w' => e = .returned (.bool (!showsT t x)) ∧ Below w.heap.size w w'
  generalize showsT t x = z at HS ⊢
  obtain ⟨t0, t1, t2⟩ := x
  unfold enc44 at HS ⊢
  dsimp only at HS ⊢
  go_enter Tryd.func58, Tryd.ntmps58
  go_upto_region 1 with fail
  have HNEW : Aside0 ((W.alloc (.cells #[.int .i64 t0, .int .i64 t1, .int .i64 t2] 44)).heap[W.heap.size]? = some (.cells #[.int .i64 t0, .int .i64 t1, .int .i64 t2] 44 (0, 0))) := ⟨heap_alloc_new W _⟩
  have HB4 : Aside0 (Below w.heap.size w (W.alloc (.cells #[.int .i64 t0, .int .i64 t1, .int .i64 t2] 44))) := ⟨below_alloc HBW.out _⟩
  generalize W.alloc (.cells #[.int .i64 t0, .int .i64 t1, .int .i64 t2] 44) = w4 at HNEW HB4 ⊢
  generalize W.heap.size = gb at HNEW ⊢
  obtain ⟨c0, c1, c2, _⟩ := cells3 HNEW.out
  have e0 : w4.cell? ⟨b8, 0, none⟩ = some (.slice (some ⟨g, 0, none⟩) 1 cap) := (World.cell?_of_block (HB4.out.block b8 HL8.out)).trans H8.out
  have e1 : w4.cell? ⟨g, 0, none⟩ = some (.iface T u) := (World.cell?_of_block (HB4.out.block g HLG.out)).trans HG.out
  refine wp_region_noPanic ?_
  refine wp_region_held_drew (S := fun w' => w'.cell? ⟨b8, 0, none⟩ = some (.slice (some ⟨g, 0, none⟩) 1 cap) ∧ w'.cell? ⟨g, 0, none⟩ = some (.iface T u) ∧ w'.cell? ⟨gb, 0, none⟩ = some (.int .i64 t0) ∧ w'.cell? ⟨gb, 1, none⟩ = some (.int .i64 t1) ∧ w'.cell? ⟨gb, 2, none⟩ = some (.int .i64 t2)) (by kernel_rfl) (⟨e0, e1, c0, c1, c2⟩) (fun hHeld => ?_)
  refine H_on 0 4 ?vc580 rfl rfl (by kernel_rfl) (by kernel_rfl) (by kernel_rfl) (by rfl) ?hc580 hHeld ?rc580
  case hc580 => (intro w hSw; obtain ⟨s0, s1, s2, s3, s4⟩ := hSw; go_simp <;> with_reducible rfl)
  simp only [Act.put, List.setIfInBounds_toArray, List.set_cons_zero, List.set_cons_succ]
  refine H_on 1 5 ?vc581 rfl rfl (by kernel_rfl) (by kernel_rfl) (by kernel_rfl) (by rfl) ?hc581 hHeld ?rc581
  case hc581 => (intro w hSw; obtain ⟨s0, s1, s2, s3, s4⟩ := hSw; go_simp <;> with_reducible rfl)
  simp only [Act.put, List.setIfInBounds_toArray, List.set_cons_zero, List.set_cons_succ]
  refine H_on 2 6 ?vc582 rfl rfl (by kernel_rfl) (by kernel_rfl) (by kernel_rfl) (by rfl) ?hc582 hHeld ?rc582
  case hc582 => (intro w hSw; obtain ⟨s0, s1, s2, s3, s4⟩ := hSw; go_simp <;> with_reducible rfl)
  simp only [Act.put, List.setIfInBounds_toArray, List.set_cons_zero, List.set_cons_succ]
  refine H_on 3 7 ?vc583 rfl rfl (by kernel_rfl) (by kernel_rfl) (by kernel_rfl) (by rfl) ?hc583 hHeld ?rc583
  case hc583 => (intro w hSw; obtain ⟨s0, s1, s2, s3, s4⟩ := hSw; go_simp <;> with_reducible rfl)
  simp only [Act.put, List.setIfInBounds_toArray, List.set_cons_zero, List.set_cons_succ]
  refine wpAnyH_ready (rs := [4]) (by kernel_rfl) (by simp) ?_
  refine AllReadyH.cons rfl (fun K hK => ?_) AllReadyH.nil
  go_simp
  refine (HS.out _ (below_drew HB4.out)).mono ?_
  rintro e w5 ⟨rfl, hb5⟩
  have HB6 : Aside0 (Below w.heap.size w w5) := ⟨below_then (below_drew HB4.out) (below_drew HB4.out).size hb5⟩
  have hN5 := (hb5.block gb (by have := blk_lt HNEW.out; exact this)).trans HNEW.out
  have f0 : w5.cell? ⟨b8, 0, none⟩ = some (.slice (some ⟨g, 0, none⟩) 1 cap) := (World.cell?_of_block (HB6.out.block b8 HL8.out)).trans H8.out
  have f1 : w5.cell? ⟨g, 0, none⟩ = some (.iface T u) := (World.cell?_of_block (HB6.out.block g HLG.out)).trans HG.out
  obtain ⟨d0, d1, d2, _⟩ := cells3 hN5
  clear hb5 hN5
  go_wp2_with fail
  refine hK.out _ _ (⟨f0, f1, d0, d1, d2⟩) (fun hHeld => ?_)
  clear hK K
  try simp only [Act.put, List.setIfInBounds_toArray, List.set_cons_zero, List.set_cons_succ]
  refine H_on 5 9 ?vc585 rfl rfl (by kernel_rfl) (by kernel_rfl) (by kernel_rfl) (by rfl) ?hc585 hHeld ?rc585
  case hc585 => (intro w hSw; obtain ⟨s0, s1, s2, s3, s4⟩ := hSw; go_simp <;> with_reducible rfl)
  simp only [Act.put, List.setIfInBounds_toArray, List.set_cons_zero, List.set_cons_succ]
  refine H_on 6 3 ?vc586 rfl rfl (by kernel_rfl) (by kernel_rfl) (by kernel_rfl) (by rfl) ?hc586 hHeld ?rc586
  case hc586 => (intro w hSw; obtain ⟨s0, s1, s2, s3, s4⟩ := hSw; go_simp <;> with_reducible rfl)
  simp only [Act.put, List.setIfInBounds_toArray, List.set_cons_zero, List.set_cons_succ]
  refine wpAnyH_done (by kernel_rfl) ?_ _
  refine NoPanic.normal ?_
  clear hHeld
  go_wp2
  go_ret
  exact ⟨rfl, HB6.out⟩
set_option maxRecDepth 100000 in
set_option maxHeartbeats 3200000 in
theorem clo65_calls (t : BT) (hg : t.Good) (l : List S44) (hl : ∀ x ∈ l, Tri8 x) (b8 g cap : Nat) (T : TypeId) (u : Value) (ok : Nat → Prop) (w : World) (h8 : w.cell? ⟨b8, 0, none⟩ = some (.slice (some ⟨g, 0, none⟩) 1 cap)) (hc : w.cell? ⟨g, 0, none⟩ = some (.iface T u)) (hv : TrV w ok (.iface T u) t) :
    PredB 65 #[.pointer (some ⟨b8, 0, none⟩)] (fun x => !showsT t x) l w := by
  intro W x hx hb
  have HL8 : Aside0 (b8 < w.heap.size) := ⟨World.block_lt_of_cell? w _ h8⟩
  have HLG : Aside0 (g < w.heap.size) := ⟨World.block_lt_of_cell? w _ hc⟩
  have H8 := Aside0.mk h8
  have HG := Aside0.mk hc
  have HS : Aside0 (∀ w1, Below w.heap.size w w1 → Calls Tryd.prog 59 #[.iface T u, enc44 x] w1 fun e w' => e = .returned (.bool (showsT t x)) ∧ Below w1.heap.size w1 w') := ⟨fun w1 h => shows_calls t hg x (hl x hx) ok _ w1 (hv.below h)⟩
  have HBW := Aside0.mk hb
  clear hx hb h8 hc hv
  show Calls Tryd.prog 65 #[enc44 x, .pointer (some ⟨b8, 0, none⟩)] W fun e w' => e = .returned (.bool (!showsT t x)) ∧ Below w.heap.size w w'
  generalize showsT t x = z at HS ⊢
  obtain ⟨t0, t1, t2⟩ := x
  unfold enc44 at HS ⊢
  dsimp only at HS ⊢
  go_enter Tryd.func65, Tryd.ntmps65
  go_upto_region 1 with fail
  have HNEW : Aside0 ((W.alloc (.cells #[.int .i64 t0, .int .i64 t1, .int .i64 t2] 44)).heap[W.heap.size]? = some (.cells #[.int .i64 t0, .int .i64 t1, .int .i64 t2] 44 (0, 0))) := ⟨heap_alloc_new W _⟩
  have HB4 : Aside0 (Below w.heap.size w (W.alloc (.cells #[.int .i64 t0, .int .i64 t1, .int .i64 t2] 44))) := ⟨below_alloc HBW.out _⟩
  generalize W.alloc (.cells #[.int .i64 t0, .int .i64 t1, .int .i64 t2] 44) = w4 at HNEW HB4 ⊢
  generalize W.heap.size = gb at HNEW ⊢
  obtain ⟨c0, c1, c2, _⟩ := cells3 HNEW.out
  have e0 : w4.cell? ⟨b8, 0, none⟩ = some (.slice (some ⟨g, 0, none⟩) 1 cap) := (World.cell?_of_block (HB4.out.block b8 HL8.out)).trans H8.out
  have e1 : w4.cell? ⟨g, 0, none⟩ = some (.iface T u) := (World.cell?_of_block (HB4.out.block g HLG.out)).trans HG.out
  refine wp_region_noPanic ?_
  refine wp_region_held_drew (S := fun w' => w'.cell? ⟨b8, 0, none⟩ = some (.slice (some ⟨g, 0, none⟩) 1 cap) ∧ w'.cell? ⟨g, 0, none⟩ = some (.iface T u) ∧ w'.cell? ⟨gb, 0, none⟩ = some (.int .i64 t0) ∧ w'.cell? ⟨gb, 1, none⟩ = some (.int .i64 t1) ∧ w'.cell? ⟨gb, 2, none⟩ = some (.int .i64 t2)) (by kernel_rfl) (⟨e0, e1, c0, c1, c2⟩) (fun hHeld => ?_)
  refine H_on 0 4 ?vc650 rfl rfl (by kernel_rfl) (by kernel_rfl) (by kernel_rfl) (by rfl) ?hc650 hHeld ?rc650
  case hc650 => (intro w hSw; obtain ⟨s0, s1, s2, s3, s4⟩ := hSw; go_simp <;> with_reducible rfl)
  simp only [Act.put, List.setIfInBounds_toArray, List.set_cons_zero, List.set_cons_succ]
  refine H_on 1 5 ?vc651 rfl rfl (by kernel_rfl) (by kernel_rfl) (by kernel_rfl) (by rfl) ?hc651 hHeld ?rc651
  case hc651 => (intro w hSw; obtain ⟨s0, s1, s2, s3, s4⟩ := hSw; go_simp <;> with_reducible rfl)
  simp only [Act.put, List.setIfInBounds_toArray, List.set_cons_zero, List.set_cons_succ]
  refine H_on 2 6 ?vc652 rfl rfl (by kernel_rfl) (by kernel_rfl) (by kernel_rfl) (by rfl) ?hc652 hHeld ?rc652
  case hc652 => (intro w hSw; obtain ⟨s0, s1, s2, s3, s4⟩ := hSw; go_simp <;> with_reducible rfl)
  simp only [Act.put, List.setIfInBounds_toArray, List.set_cons_zero, List.set_cons_succ]
  refine H_on 3 7 ?vc653 rfl rfl (by kernel_rfl) (by kernel_rfl) (by kernel_rfl) (by rfl) ?hc653 hHeld ?rc653
  case hc653 => (intro w hSw; obtain ⟨s0, s1, s2, s3, s4⟩ := hSw; go_simp <;> with_reducible rfl)
  simp only [Act.put, List.setIfInBounds_toArray, List.set_cons_zero, List.set_cons_succ]
  refine wpAnyH_ready (rs := [4]) (by kernel_rfl) (by simp) ?_
  refine AllReadyH.cons rfl (fun K hK => ?_) AllReadyH.nil
  go_simp
  refine (HS.out _ (below_drew HB4.out)).mono ?_
  rintro e w5 ⟨rfl, hb5⟩
  have HB6 : Aside0 (Below w.heap.size w w5) := ⟨below_then (below_drew HB4.out) (below_drew HB4.out).size hb5⟩
  have hN5 := (hb5.block gb (by have := blk_lt HNEW.out; exact this)).trans HNEW.out
  have f0 : w5.cell? ⟨b8, 0, none⟩ = some (.slice (some ⟨g, 0, none⟩) 1 cap) := (World.cell?_of_block (HB6.out.block b8 HL8.out)).trans H8.out
  have f1 : w5.cell? ⟨g, 0, none⟩ = some (.iface T u) := (World.cell?_of_block (HB6.out.block g HLG.out)).trans HG.out
  obtain ⟨d0, d1, d2, _⟩ := cells3 hN5
  clear hb5 hN5
  go_wp2_with fail
  refine hK.out _ _ (⟨f0, f1, d0, d1, d2⟩) (fun hHeld => ?_)
  clear hK K
  try simp only [Act.put, List.setIfInBounds_toArray, List.set_cons_zero, List.set_cons_succ]
  refine H_on 5 9 ?vc655 rfl rfl (by kernel_rfl) (by kernel_rfl) (by kernel_rfl) (by rfl) ?hc655 hHeld ?rc655
  case hc655 => (intro w hSw; obtain ⟨s0, s1, s2, s3, s4⟩ := hSw; go_simp <;> with_reducible rfl)
  simp only [Act.put, List.setIfInBounds_toArray, List.set_cons_zero, List.set_cons_succ]
  refine H_on 6 3 ?vc656 rfl rfl (by kernel_rfl) (by kernel_rfl) (by kernel_rfl) (by rfl) ?hc656 hHeld ?rc656
  case hc656 => (intro w hSw; obtain ⟨s0, s1, s2, s3, s4⟩ := hSw; go_simp <;> with_reducible rfl)
  simp only [Act.put, List.setIfInBounds_toArray, List.set_cons_zero, List.set_cons_succ]
  refine wpAnyH_done (by kernel_rfl) ?_ _
  refine NoPanic.normal ?_
  clear hHeld
  go_wp2
  go_ret
  exact ⟨rfl, HB6.out⟩

theorem rem_calls (n : Int) (A : Option Addr) (c : Nat) (l : List S44) (W : World) (hr : Kd.C k44 W A l.length l) (hc : l.length ≤ c) : Calls Tryd.prog 56 #[.int .i64 n, .slice A l.length c] W fun e w' => e = .returned (.int .i64 (listE n l)) ∧ Below W.heap.size W w' := by
  obtain ⟨k, hk⟩ := rem_some n l
  exact (breed_remembered.calls k n A c l _ W hr hc hk).mono fun _ _ ⟨p, q⟩ => ⟨p, q⟩
/-! ### Shows -/
def showsE (n : Int) (L : List UInt8) (l : List S44) : Bool × Int := match parseE n L with
  | none => (false, errT n)
  | some t => if listE n l = 0 then (l.all (showsT t), 0) else (false, listE n l)
theorem all_any (t : BT) (l : List S44) : (!l.any fun x => !showsT t x) = l.all (showsT t) := by
  induction l with
  | nil => rfl
  | cons x l ih => rw [List.any_cons, List.all_cons, Bool.not_or, ih, Bool.not_not]
set_option maxRecDepth 100000 in
set_option maxHeartbeats 3200000 in
theorem Shows_calls (n : Int) (L : List UInt8) (A : Option Addr) (c : Nat) (l : List S44) (W : World) (hr : Kd.C k44 W A l.length l) (hc : l.length ≤ c) (hT : TabAt W) :
    Calls Tryd.prog 28 #[.int .i64 n, .string (strB L), .slice A l.length c] W fun e w' => e = .returned (.tuple #[.bool (showsE n L l).1, .int .i64 (showsE n L l).2]) ∧ Below W.heap.size W w' := by
  have HT := Aside0.mk hT
  have HR := Aside0.mk hr
  obtain ⟨Z, hZ⟩ : ∃ Z, showsE n L l = Z := ⟨_, rfl⟩
  rw [hZ]
  unfold showsE at hZ
  have HC : Aside0 (Calls Tryd.prog 52 #[.int .i64 n, .slice (some ⟨W.heap.size, 0, none⟩) 1 1] (W.alloc (.cells #[.string (strB L)] 9)) fun e w' => ((parseE n L = none ∧ e = .returned (.tuple #[.slice none 0 0, .int .i64 (errT n)])) ∨
      ∃ (t : BT) (g cap : Nat) (T : TypeId) (u : Value), parseE n L = some t ∧ e = .returned (.tuple #[.slice (some ⟨g, 0, none⟩) 1 cap, .int .i64 0]) ∧ w'.cell? ⟨g, 0, none⟩ = some (.iface T u) ∧ TrV w' (fun _ => True) (.iface T u) t) ∧ Below W.heap.size W w') :=
    ⟨(read_one n W.heap.size 1 L _ (blk_cell (heap_alloc_new W (.cells #[.string (strB L)] 9)) 0) (HT.out.next ((Below.refl _ _).alloc (Nat.le_refl _) _))).mono fun e w' ⟨h1, h2⟩ => ⟨h1, below_then ((Below.refl _ W).alloc (Nat.le_refl _) _) ((Below.refl _ W).alloc (Nat.le_refl _) _).size h2⟩⟩
  generalize strB L = sb at HC ⊢
  have he0 := errT_ne n
  obtain ⟨e1, e2⟩ := errne he0
  have HREM : Aside0 (∀ w, Below W.heap.size W w → Calls Tryd.prog 56 #[.int .i64 n, .slice A l.length c] w fun e w' => e = .returned (.int .i64 (listE n l)) ∧ Below w.heap.size w w') := ⟨fun w hb => rem_calls n A c l w (Kd.C_below HR.out hb) hc⟩
  obtain ⟨len, hlen⟩ : ∃ len, l.length = len := ⟨_, rfl⟩
  have HL := Aside0.mk hlen
  rw [hlen] at HREM HR ⊢
  clear hr hc hlen
  cases hp : parseE n L with
  | none =>
    rw [hp] at hZ
    dsimp only at hZ
    subst hZ
    have HC2 : Aside0 (Calls Tryd.prog 52 #[.int .i64 n, .slice (some ⟨W.heap.size, 0, none⟩) 1 1] (W.alloc (.cells #[.string sb] 9)) fun e w' => e = .returned (.tuple #[.slice none 0 0, .int .i64 (errT n)]) ∧ Below W.heap.size W w') := ⟨HC.out.mono (by
      rintro e w' ⟨⟨_, h⟩ | ⟨t, _, _, _, _, h, _⟩, hb⟩
      · exact ⟨h, hb⟩
      · rw [hp] at h; cases h)⟩
    clear HC hp he0
    generalize errT n = E at *
    go_enter Tryd.func28, Tryd.ntmps28
    go_wp2_with (go_at_call 52; go_must (refine HC2.out.mono ?_; rintro e w1 ⟨rfl, hb1⟩; have HB1 := Aside0.mk hb1; clear hb1))
    go_ret2
    exact ⟨rfl, below_alloc HB1.out _⟩
  | some t =>
    rw [hp] at hZ
    dsimp only at hZ
    obtain ⟨hn1, hn8, hgt, hst⟩ := parseE_good hp
    have HG := Aside0.mk hgt
    have HC2 : Aside0 (Calls Tryd.prog 52 #[.int .i64 n, .slice (some ⟨W.heap.size, 0, none⟩) 1 1] (W.alloc (.cells #[.string sb] 9)) fun e w' => ∃ (g cap : Nat) (T : TypeId) (u : Value), e = .returned (.tuple #[.slice (some ⟨g, 0, none⟩) 1 cap, .int .i64 0]) ∧ w'.cell? ⟨g, 0, none⟩ = some (.iface T u) ∧ TrV w' (fun _ => True) (.iface T u) t ∧ Below W.heap.size W w') := ⟨HC.out.mono (by
      rintro e w' ⟨⟨h, _⟩ | ⟨t', g, cap, T, u, h, h1, h2, h3⟩, hb⟩
      · rw [hp] at h; cases h
      · rw [hp] at h; cases h; exact ⟨g, cap, T, u, h1, h2, h3, hb⟩)⟩
    clear HC hp he0 e1 e2 hst hgt
    by_cases h0 : listE n l = 0
    · rw [if_pos h0] at hZ
      rw [h0] at HREM
      obtain ⟨_, hok⟩ := listE_zero h0
      have HT8 : Aside0 (∀ x ∈ l, Tri8 x) := ⟨fun x hx => okTri_8 (by omega) (hok x hx)⟩
      have HZ := Aside0.mk hZ
      clear h0 hok hZ
      go_enter Tryd.func28, Tryd.ntmps28
      go_upto_region 2 with (go_at_call 52; go_must (refine HC2.out.mono ?_; rintro e w1 ⟨g, cap, T, u, rfl, hc1, ht1, hb1⟩; have HCG := Aside0.mk hc1; have HTV := Aside0.mk ht1; have HB1 := Aside0.mk hb1; clear hc1 ht1 hb1))
      have HN8 : Aside0 ((w1.alloc (.cells #[.slice (some ⟨g, 0, none⟩) 1 cap] 79)).heap[w1.heap.size]? = some (.cells #[.slice (some ⟨g, 0, none⟩) 1 cap] 79 (0, 0))) := ⟨heap_alloc_new w1 _⟩
      have HBA : Aside0 (Below w1.heap.size w1 (w1.alloc (.cells #[.slice (some ⟨g, 0, none⟩) 1 cap] 79))) := ⟨(Below.refl _ _).alloc (Nat.le_refl _) _⟩
      have HLG : Aside0 (g < w1.heap.size) := ⟨World.block_lt_of_cell? w1 _ HCG.out⟩
      generalize w1.alloc (.cells #[.slice (some ⟨g, 0, none⟩) 1 cap] 79) = w2 at HN8 HBA ⊢
      generalize hb8 : w1.heap.size = b8 at HN8 ⊢
      have HB2 := Aside0.mk (below_then HB1.out HB1.out.size HBA.out)
      have HCT : Aside0 (∀ w, Below w2.heap.size w2 w → Calls Tryd.prog 57 #[.slice A len c, .func (.func 58) #[] #[.pointer (some ⟨b8, 0, none⟩)]] w fun e w' => e = .returned (.bool (l.any fun x => !showsT t x)) ∧ Below w.heap.size w w') := ⟨fun w hb =>
        ContainsFunc_tri 58 #[.pointer (some ⟨b8, 0, none⟩)] (fun x => !showsT t x) enters58 A len c l w (Kd.C_below HR.out (below_then HB2.out HB2.out.size hb))
          (clo58_calls t HG.out l HT8.out b8 g cap T u (fun _ => True) w ((World.cell?_of_block (hb.block b8 (blk_lt HN8.out))).trans (blk_cell HN8.out 0)) ((World.cell?_of_block ((HBA.out.trans (hb.mono HBA.out.size)).block g HLG.out)).trans HCG.out) (HTV.out.below (HBA.out.trans (hb.mono HBA.out.size))))⟩
      go_wp2_with (first
        | (go_at_call 56; go_must (refine (HREM.out _ HB2.out).mono ?_; rintro e w3 ⟨rfl, hb3⟩; have HB3 := Aside0.mk hb3; clear hb3))
        | (go_at_call 57; go_must (refine (HCT.out _ HB3.out).mono ?_; rintro e w4 ⟨rfl, hb4⟩; have HB4 := Aside0.mk hb4; clear hb4)))
      go_ret2
      refine ⟨?_, below_then HB2.out HB2.out.size (HB3.out.trans (HB4.out.mono HB3.out.size))⟩
      rw [← HZ.out, ← all_any]
      rfl
    · rw [if_neg h0] at hZ
      subst hZ
      obtain ⟨e1, e2⟩ := errne h0
      clear h0
      generalize listE n l = E at *
      go_enter Tryd.func28, Tryd.ntmps28
      go_upto_region 2 with (go_at_call 52; go_must (refine HC2.out.mono ?_; rintro e w1 ⟨g, cap, T, u, rfl, hc1, ht1, hb1⟩; have HB1 := Aside0.mk hb1; clear hc1 ht1 hb1))
      have HB2 : Aside0 (Below W.heap.size W (w1.alloc (.cells #[.slice (some ⟨g, 0, none⟩) 1 cap] 79))) := ⟨below_alloc HB1.out _⟩
      generalize w1.alloc (.cells #[.slice (some ⟨g, 0, none⟩) 1 cap] 79) = w2 at HB2 ⊢
      go_wp2_with (go_at_call 56; go_must (refine (HREM.out _ HB2.out).mono ?_; rintro e w3 ⟨rfl, hb3⟩; have HB3 := Aside0.mk (below_then HB2.out HB2.out.size hb3); clear hb3))
      go_ret2
      exact ⟨rfl, HB3.out⟩
end Go.Proofs.YtdbbcngmnpejnaaDoor.B

/- breed.IsTree and breed.Joined, walked. -/
namespace Go.Proofs.YtdbbcngmnpejnaaDoor.B
open Go.Proofs.YtdbbcngmnpejnaaDoor.A
open Go.RowKit Go.Proofs.YtdbbcngmnpejnaaDoorW.PrintWords Go.Proofs.YtdbbcngmnpejnaaDoorW.PrintMore

set_option maxRecDepth 100000 in
set_option maxHeartbeats 1600000 in
theorem IsTree_calls (n : Int) (L : List UInt8) (W : World) (hT : TabAt W) :
    Calls Tryd.prog 32 #[.int .i64 n, .string (strB L)] W fun e w' => e = .returned (.bool (parseE n L).isSome) ∧ Below W.heap.size W w' := by
  have HT := Aside0.mk hT
  have HH := Aside0.mk (herd_calls n W)
  obtain ⟨Z, hZ⟩ : ∃ Z, (parseE n L).isSome = Z := ⟨_, rfl⟩
  rw [hZ]
  unfold parseE at hZ
  by_cases hn : 1 ≤ n ∧ n ≤ 8
  · rw [if_pos hn] at hZ
    rw [decide_eq_true hn] at HH
    obtain ⟨m, rfl⟩ : ∃ m : Nat, n = m := ⟨n.toNat, by omega⟩
    rw [Int.toNat_natCast] at hZ
    have HP : Aside0 (∀ w, Below W.heap.size W w → Calls Tryd.prog 61 #[.int .i64 m, .string (strB L)] w (TreePost (parseF m L) w)) := ⟨fun w hb => parse_calls m (by omega) (by omega) L w (HT.out.next hb)⟩
    generalize strB L = sb at HP ⊢
    clear hn
    cases hp : parseF m L with
    | none =>
      rw [hp] at HP hZ
      have HZ : Aside0 (false = Z) := ⟨hZ⟩
      have HC : Aside0 (∀ w, Below W.heap.size W w → Calls Tryd.prog 61 #[.int .i64 m, .string sb] w fun e w' => e = .returned .nilIface ∧ Below w.heap.size w w') := ⟨fun w hb => (HP.out w hb).mono (by
        rintro e w' ⟨⟨_, rfl⟩ | ⟨t, v, h, _⟩, hb⟩
        · exact ⟨rfl, hb⟩
        · cases h)⟩
      clear HP hp hZ
      go_enter Tryd.func32, Tryd.ntmps32
      go_wp2_with (first
        | (go_at_call 40; go_must (refine HH.out.mono ?_; rintro e w1 ⟨rfl, hb1⟩; have HB1 := Aside0.mk hb1; clear hb1))
        | (go_at_call 61; go_must (refine (HC.out _ HB1.out).mono ?_; rintro e w2 ⟨rfl, hb2⟩; have HB2 := Aside0.mk (below_then HB1.out HB1.out.size hb2); clear hb2)))
      go_ret
      exact ⟨by rw [← HZ.out]; rfl, HB2.out⟩
    | some t =>
      rw [hp] at HP hZ
      have HZ : Aside0 (true = Z) := ⟨hZ⟩
      have HC : Aside0 (∀ w, Below W.heap.size W w → Calls Tryd.prog 61 #[.int .i64 m, .string sb] w fun e w' => ∃ T u, e = .returned (.iface T u) ∧ Below w.heap.size w w') := ⟨fun w hb => (HP.out w hb).mono (by
        rintro e w' ⟨⟨h, _⟩ | ⟨t', v, h, rfl, ht⟩, hb⟩
        · cases h
        · obtain ⟨T, u, rfl, _⟩ := ht.ask
          exact ⟨T, u, rfl, hb⟩)⟩
      clear HP hp hZ
      go_enter Tryd.func32, Tryd.ntmps32
      go_wp2_with (first
        | (go_at_call 40; go_must (refine HH.out.mono ?_; rintro e w1 ⟨rfl, hb1⟩; have HB1 := Aside0.mk hb1; clear hb1))
        | (go_at_call 61; go_must (refine (HC.out _ HB1.out).mono ?_; rintro e w2 ⟨T, u, rfl, hb2⟩; have HB2 := Aside0.mk (below_then HB1.out HB1.out.size hb2); clear hb2)))
      go_ret
      exact ⟨by rw [← HZ.out]; rfl, HB2.out⟩
  · rw [if_neg hn] at hZ
    rw [decide_eq_false hn] at HH
    have HZ : Aside0 (false = Z) := ⟨hZ⟩
    clear hn hZ
    go_enter Tryd.func32, Tryd.ntmps32
    go_wp2_with (go_at_call 40; go_must (refine HH.out.mono ?_; rintro e w1 ⟨rfl, hb1⟩; have HB1 := Aside0.mk hb1; clear hb1))
    go_ret
    exact ⟨by rw [← HZ.out]; rfl, HB1.out⟩

/-! ### Joined -/
/-- The parts of a set, and the error. -/
def joinE (n : Int) (l : List S44) (s : Int) : List Int × Int := if askE n l = 0 then (if 1 ≤ s ∧ s < ((2 ^ n.toNat : Nat) : Int) then (joinedF l s.toNat, 0) else ([], 2)) else ([], askE n l)
def RowE (Z : List Int × Int) (W : World) (e : Ending) (w' : World) : Prop := ∃ v, e = .returned (.tuple #[v, .int .i64 Z.2]) ∧ (Kd.int .i64).R 3 w' W.heap.size (fun _ => True) v Z.1 ∧ Below W.heap.size W w'
set_option maxRecDepth 100000 in
set_option maxHeartbeats 1600000 in
theorem Joined_calls (n : Int) (A : Option Addr) (c : Nat) (l : List S44) (s : Int) (W : World) (hr : Kd.C k44 W A l.length l) (hc : l.length ≤ c) :
    Calls Tryd.prog 21 #[.int .i64 n, .slice A l.length c, .int .i64 s] W (RowE (joinE n l s) W) := by
  have HA := Aside0.mk (asked_calls n A c l W hr hc)
  have HR := Aside0.mk hr
  obtain ⟨Z, hZ⟩ : ∃ Z, joinE n l s = Z := ⟨_, rfl⟩
  rw [hZ]
  unfold joinE at hZ
  by_cases h0 : askE n l = 0
  · rw [if_pos h0] at hZ
    rw [h0] at HA
    obtain ⟨hn, hl, hok⟩ := askE_zero h0
    obtain ⟨m, rfl⟩ : ∃ m : Nat, n = m := ⟨n.toNat, by omega⟩
    rw [Int.toNat_natCast] at hZ
    have hm8 : m ≤ 8 := by omega
    have h8 : ∀ t ∈ l, Tri8 t := fun t ht => okTri_8 (by omega) (hok t ht)
    have hp := pow_256 hm8
    have HJ : Aside0 (∀ (s : Nat) w1, s < 256 → Below W.heap.size W w1 → Calls Tryd.prog 48 #[.slice A l.length c, .int .i64 (s : Int)] w1 fun e w' => ∃ v, e = .returned v ∧ Kd.R (Kd.int .i64) 3 w' w1.heap.size (fun _ => True) v (joinedF l s) ∧ Below w1.heap.size w1 w') := ⟨fun s w1 hs hb => joined_calls A c l s hs h8 (by omega) w1 (Kd.C_below HR.out hb)⟩
    have hw1 := wrap_pow hm8
    have hw2 := wrap64_pow hm8
    obtain ⟨len, hlen⟩ : ∃ len, l.length = len := ⟨_, rfl⟩
    rw [hlen] at HA HJ ⊢
    clear hr hc hn hl hok h8 hlen h0
    by_cases hs : 1 ≤ s ∧ s < ((2 ^ m : Nat) : Int)
    · rw [if_pos hs] at hZ
      obtain ⟨q, rfl⟩ : ∃ q : Nat, s = q := ⟨s.toNat, by omega⟩
      rw [Int.toNat_natCast] at hZ
      have hq8 : q < 256 := by omega
      have hs1 := hs.1
      have hs2 := hs.2
      have hs3 : ¬ ((q : Int) < 1) := by omega
      have HZ := Aside0.mk hZ
      generalize ((2 ^ m : Nat) : Int) = P at hw1 hw2 hs2
      clear hs hp hZ
      go_enter Tryd.func21, Tryd.ntmps21
      go_wp2_with (first
        | (go_at_call 43; go_must (refine HA.out.mono ?_; rintro e w1 ⟨rfl, hb1⟩; have HB1 := Aside0.mk hb1; clear hb1))
        | (go_at_call 48; go_must (refine (HJ.out q _ hq8 HB1.out).mono ?_; rintro e w4 ⟨v4, rfl, hR4, hb4⟩; have HR4 := Aside0.mk hR4; have HB4 := Aside0.mk (below_then HB1.out HB1.out.size hb4); clear hR4 hb4)))
      go_ret2
      exact ⟨v4, by rw [← HZ.out]; rfl, by rw [← HZ.out]; exact Kd.R_lower HR4.out HB1.out.size, HB4.out⟩
    · rw [if_neg hs] at hZ
      have HZ := Aside0.mk hZ
      generalize ((2 ^ m : Nat) : Int) = P at hw1 hw2 hs
      clear hp hZ
      by_cases hs1 : s < 1
      · clear hs
        go_enter Tryd.func21, Tryd.ntmps21
        go_wp2_with (go_at_call 43; go_must (refine HA.out.mono ?_; rintro e w1 ⟨rfl, hb1⟩; have HB1 := Aside0.mk hb1; clear hb1))
        go_ret2
        exact ⟨_, by rw [← HZ.out]; rfl, by rw [← HZ.out]; exact Kd.R_nil _ _ _ _ _, HB1.out⟩
      · have hs2 : ¬ s < P := by omega
        have hs3 : s ≥ P := by omega
        clear hs
        go_enter Tryd.func21, Tryd.ntmps21
        go_wp2_with (go_at_call 43; go_must (refine HA.out.mono ?_; rintro e w1 ⟨rfl, hb1⟩; have HB1 := Aside0.mk hb1; clear hb1))
        go_ret2
        exact ⟨_, by rw [← HZ.out]; rfl, by rw [← HZ.out]; exact Kd.R_nil _ _ _ _ _, HB1.out⟩
  · rw [if_neg h0] at hZ
    subst hZ
    obtain ⟨e1, e2⟩ := errne h0
    generalize askE n l = E at *
    clear hr hc h0
    go_enter Tryd.func21, Tryd.ntmps21
    go_wp2_with (go_at_call 43; go_must (refine HA.out.mono ?_; rintro e w1 ⟨rfl, hb1⟩; have HB1 := Aside0.mk hb1; clear hb1))
    go_ret2
    exact ⟨_, rfl, Kd.R_nil _ _ _ _ _, HB1.out⟩
end Go.Proofs.YtdbbcngmnpejnaaDoor.B

/- The reference's given, size, ascending, Build, Knot and Joined: they answer what the program's do. -/
namespace Go.Proofs.YtdbbcngmnpejnaaDoor.B
open Go.Proofs.YtdbbcngmnpejnaaDoor.A
open Go.RowKit Go.Proofs.YtdbbcngmnpejnaaDoorW.PrintWords Go.Proofs.YtdbbcngmnpejnaaDoorW.PrintMore

theorem given_calls (n : Int) (A : Option Addr) (c : Nat) (l : List S44) (w : World) (hr : Kd.C k44 w A l.length l) (hc : l.length ≤ c) :
    Calls Tryd.prog 45 #[.int .i64 n, .slice A l.length c] w fun e w' => e = .returned (.int .i64 (askE n l)) ∧ Below w.heap.size w w' := by
  obtain ⟨k, hk⟩ := list_some n l
  refine (drovewayref05_given.calls k n A c l (askE n l) w hr hc ?_).mono fun _ _ ⟨p, q⟩ => ⟨p, q⟩
  unfold drovewayref05_given.f askE
  by_cases h1 : n < 1
  · rw [if_pos h1, if_neg (by omega)]
  · by_cases h2 : n > 8
    · rw [if_neg h1, if_pos h2, if_neg (by omega)]
    · rw [if_neg h1, if_neg h2, hk, if_pos (by omega)]; rfl
theorem size_calls {s : Nat} (h8 : s < 256) (W : World) : Calls Tryd.prog 49 #[.int .i64 (s : Int)] W fun e w' => e = .returned (.int .i64 (pcN s 8 : Int)) ∧ Below W.heap.size W w' := by
  have h : (List.range 256).all (fun s => decide (drovewayref05_size.f 20 (s : Int) = some (pcN s 8 : Int))) = true := by decide +kernel
  have h := List.all_eq_true.1 h s (List.mem_range.2 h8)
  rw [decide_eq_true_iff] at h
  refine (drovewayref05_size.calls 20 (s : Int) _ W h).mono ?_
  rintro e w' ⟨rfl, ⟨nd, rfl⟩⟩
  exact ⟨rfl, pw_below_drewN (Below.refl _ _) nd⟩

/-! ### ascending -/
theorem sorted_one : ∀ {a b : List Int}, a.Pairwise (· ≤ ·) → b.Pairwise (· ≤ ·) → a.Perm b → a = b
  | [], b, _, _, hp => (List.Perm.nil_eq hp)
  | x :: a, [], _, _, hp => absurd hp.length_eq (by simp)
  | x :: a, y :: b, ha, hb, hp => by
    rw [List.pairwise_cons] at ha hb
    have e : x = y := by
      have h1 : x ∈ y :: b := hp.mem_iff.mp List.mem_cons_self
      have h2 : y ∈ x :: a := hp.mem_iff.mpr List.mem_cons_self
      rcases List.mem_cons.mp h1 with h | h
      · exact h
      · rcases List.mem_cons.mp h2 with k | k
        · exact k.symm
        · have := ha.1 y k; have := hb.1 x h; omega
    subst e
    rw [sorted_one ha.2 hb.2 (List.Perm.cons_inv hp)]
theorem rd_at {x : Int} {A B : List Int} {j : Nat} (h : A.length = j) : rd (A ++ x :: B) (j : Int) = x := by
  subst h
  simp [rd, List.getD_eq_getElem?_getD]
theorem asc_inner (l : List Int) (i : Int) (r : List Int) : ∀ (j : Nat) (A B : List Int) (x : Int), A.length = j → (A ++ B).Pairwise (· ≤ ·) → (∀ b ∈ B, x ≤ b) → (A ++ x :: B).length ≤ 1000 →
    ∃ S : List Int, S.Pairwise (· ≤ ·) ∧ S.Perm (A ++ x :: B) ∧ (Ev (fun k => drovewayref05_ascending.l0 k l S (wrap64 (i + 1))) r → Ev (fun k => drovewayref05_ascending.l1 k l (A ++ x :: B) i (j : Int)) r)
  | 0, A, B, x, hA, hs, hx, _ => by
    obtain rfl := List.length_eq_zero_iff.mp hA
    refine ⟨x :: B, List.pairwise_cons.mpr ⟨hx, by simpa using hs⟩, List.Perm.refl _, fun h => Ev.step (fun k => ?_) h⟩
    rw [drovewayref05_ascending.l1, if_neg (by omega)]
    rfl
  | j + 1, A, B, x, hA, hs, hx, hl => by
    obtain ⟨A', a, rfl⟩ : ∃ A' a, A = A' ++ [a] := ⟨A.dropLast, A.getLast (by intro e; rw [e] at hA; cases hA), (List.dropLast_concat_getLast _).symm⟩
    have hA' : A'.length = j := by simpa using hA
    have hw : wrap64 (((j + 1 : Nat) : Int) - 1) = (j : Int) := by unfold wrap64; have : j ≤ 1000 := by simp at hl; omega
                                                                   omega
    have hl2 : (((A' ++ [a] ++ x :: B).length : Nat) : Int) = (j : Int) + 2 + (B.length : Int) := by simp; omega
    have hr1 : rd (A' ++ [a] ++ x :: B) ((j + 1 : Nat) : Int) = x := rd_at (by simp [hA'])
    have hr0 : rd (A' ++ [a] ++ x :: B) (j : Int) = a := by rw [List.append_assoc]; exact rd_at hA'
    have hset : ((A' ++ [a] ++ x :: B).set (j + 1) a).set j x = A' ++ x :: (a :: B) := by
      subst hA'
      rw [List.append_assoc, List.set_append_right _ _ (by omega), show A'.length + 1 - A'.length = 1 by omega, List.set_append_right _ _ (by omega), Nat.sub_self]
      rfl
    by_cases hxa : x < a
    · obtain ⟨S, h1, h2, h3⟩ := asc_inner l i r j A' (a :: B) x hA' (by simpa using hs) (fun b hb => by
        rcases List.mem_cons.mp hb with e | e
        · omega
        · exact hx b e) (by simp at hl ⊢; omega)
      refine ⟨S, h1, h2.trans (by
        rw [List.append_assoc]
        exact List.Perm.append_left A' (List.Perm.swap a x B)), fun h => Ev.step (fun k => ?_) (h3 h)⟩
      rw [drovewayref05_ascending.l1, if_pos (by omega), if_pos (by omega), if_pos (by omega), hw, if_pos (by omega), if_pos (by omega), hr1, hr0, if_pos hxa, Int.toNat_natCast, Int.toNat_natCast, hset]
    · refine ⟨A' ++ [a] ++ x :: B, ?_, List.Perm.refl _, fun h => Ev.step (fun k => ?_) h⟩
      · rw [List.pairwise_append] at hs ⊢
        refine ⟨hs.1, List.pairwise_cons.mpr ⟨hx, hs.2.1⟩, fun u hu v hv => ?_⟩
        rcases List.mem_cons.mp hv with e | e
        · subst e
          have h4 := hs.1
          rw [List.pairwise_append] at h4
          rcases List.mem_append.mp hu with k | k
          · have := h4.2.2 u k a List.mem_cons_self; omega
          · rw [List.mem_singleton.mp k]; omega
        · exact hs.2.2 u hu v e
      · rw [drovewayref05_ascending.l1, if_pos (by omega), if_pos (by omega), if_pos (by omega), hw, if_pos (by omega), if_pos (by omega), hr1, hr0, if_neg hxa]
theorem asc_outer (l : List Int) (hl : l.length ≤ 1000) : ∀ d i : Nat, i + d = l.length → ∀ S : List Int, S.Pairwise (· ≤ ·) → S.Perm (l.take i) → Ev (fun k => drovewayref05_ascending.l0 k l S (i : Int)) (sortI l)
  | 0, i, h, S, hs, hp => by
    refine Ev.step (f := fun _ => some (sortI l)) (fun k => ?_) (Ev.now _)
    rw [drovewayref05_ascending.l0, if_neg (by omega)]
    congr 1
    rw [List.take_of_length_le (by omega)] at hp
    refine sorted_one hs ?_ (hp.trans (List.mergeSort_perm _ _).symm)
    have h := List.pairwise_mergeSort (le := fun x y : Int => decide (x ≤ y)) (fun a b c h1 h2 => by simp at h1 h2 ⊢; omega) (fun a b => by simp; omega) l
    exact h.imp fun h => by simpa using h
  | d + 1, i, h, S, hs, hp => by
    have hi : i < l.length := by omega
    have hSl : S.length = i := by rw [hp.length_eq, List.length_take]; omega
    have hrd : rd l (i : Int) = l[i] := by simp [rd, List.getD_eq_getElem?_getD, List.getElem?_eq_getElem hi]
    obtain ⟨S', h1, h2, h3⟩ := asc_inner l (i : Int) (sortI l) i S [] l[i] hSl (by simpa using hs) (fun b hb => by cases hb) (by simp; omega)
    have hw : wrap64 ((i : Int) + 1) = ((i + 1 : Nat) : Int) := by unfold wrap64; omega
    have hw2 : wrap64 ((((S ++ [l[i]]).length : Nat) : Int) - 1) = (i : Int) := by rw [List.length_append, List.length_singleton, hSl]; unfold wrap64; omega
    rw [hw] at h3
    refine Ev.step (fun k => ?_) (h3 (asc_outer l hl d (i + 1) (by omega) S' h1 (h2.trans (by
      rw [List.take_add_one, List.getElem?_eq_getElem hi]
      exact hp.append_right _))))
    rw [drovewayref05_ascending.l0, if_pos (by omega), if_pos (by omega), if_pos (by omega), hrd, Option.bind_some, hw2]
theorem asc_calls (A : Option Addr) (c : Nat) (l : List Int) (hl : l.length ≤ 1000) (w : World) (hr : Kd.C (Kd.int .i64) w A l.length l) (hc : l.length ≤ c) :
    Calls Tryd.prog 51 #[.slice A l.length c] w fun e w' => ∃ v, e = .returned v ∧ Kd.R (Kd.int .i64) 3 w' w.heap.size (fun _ => True) v (sortI l) ∧ Below w.heap.size w w' := by
  obtain ⟨k, hk⟩ := asc_outer l hl l.length 0 (by omega) [] List.Pairwise.nil (List.Perm.refl _)
  exact drovewayref05_ascending.calls k A c l _ w hr hc (hk k (Nat.le_refl _))

/-! ### Build -/
set_option maxRecDepth 100000 in
set_option maxHeartbeats 1600000 in
theorem RBuild_calls (n : Int) (A : Option Addr) (c : Nat) (l : List S44) (W : World) (hr : Kd.C k44 W A l.length l) (hc : l.length ≤ c) :
    Calls Tryd.prog 18 #[.int .i64 n, .slice A l.length c] W fun e w' => e = .returned (.tuple #[.string (buildE n l).1, .int .i64 (buildE n l).2]) ∧ Below W.heap.size W w' := by
  have HA := Aside0.mk (given_calls n A c l W hr hc)
  have HR := Aside0.mk hr
  obtain ⟨Z, hZ⟩ : ∃ Z, buildE n l = Z := ⟨_, rfl⟩
  rw [hZ]
  unfold buildE at hZ
  by_cases h0 : askE n l = 0
  · rw [if_pos h0] at hZ
    rw [h0] at HA
    obtain ⟨hn, hl, hok⟩ := askE_zero h0
    obtain ⟨m, rfl⟩ : ∃ m : Nat, n = m := ⟨n.toNat, by omega⟩
    rw [Int.toNat_natCast] at hZ
    have hm8 : m ≤ 8 := by omega
    have h8 : ∀ t ∈ l, Tri8 t := fun t ht => okTri_8 (by omega) (hok t ht)
    have hp := pow_256 hm8
    have hp2 : 2 ≤ 2 ^ m := by
      obtain ⟨m', rfl⟩ : ∃ m', m = m' + 1 := ⟨m - 1, by omega⟩
      have := Nat.two_pow_pos m'
      rw [Nat.pow_succ]; omega
    have HB : Aside0 (∀ w1, Below W.heap.size W w1 → Calls Tryd.prog 46 #[.slice A l.length c, .int .i64 ((2 ^ m - 1 : Nat) : Int)] w1 fun e w' => e = .returned (.tuple #[.string (rtext (buildF l 9 (2 ^ m - 1))), .bool (buildF l 9 (2 ^ m - 1)).isSome]) ∧ Below w1.heap.size w1 w') := ⟨fun w1 hb => rbuild_calls A c l h8 (by omega) 9 (2 ^ m - 1) w1 (by omega) (by omega) (by have := pcN_le (2 ^ m - 1) 8; omega) (Kd.C_below HR.out hb)⟩
    have hw1 := wrap_pow hm8
    have hw2 := wrap64_pow hm8
    have hs : ((2 ^ m - 1 : Nat) : Int) = ((2 ^ m : Nat) : Int) - 1 := by omega
    rw [hs] at HB
    have hpb : 2 ≤ ((2 ^ m : Nat) : Int) ∧ ((2 ^ m : Nat) : Int) ≤ 256 := by omega
    generalize ((2 ^ m : Nat) : Int) = P at HB hw1 hw2 hpb
    obtain ⟨len, hlen⟩ : ∃ len, l.length = len := ⟨_, rfl⟩
    rw [hlen] at HA HB ⊢
    clear hr hc hn hl hok h8 hlen hs hp hp2
    cases hb : buildF l 9 (2 ^ m - 1) with
    | none =>
      rw [hb] at hZ HB
      subst hZ
      have HB2 : Aside0 (∀ w1, Below W.heap.size W w1 → Calls Tryd.prog 46 #[.slice A len c, .int .i64 (P - 1)] w1 fun e w' => e = .returned (.tuple #[.string ⟨#[]⟩, .bool false]) ∧ Below w1.heap.size w1 w') := ⟨HB.out⟩
      clear HB hb
      go_enter Tryd.func18, Tryd.ntmps18
      go_wp2_with (first
        | (go_at_call 45; go_must (refine HA.out.mono ?_; rintro e w1 ⟨rfl, hb1⟩; have HB1 := Aside0.mk hb1; clear hb1))
        | (go_at_call 46; go_must (refine (HB2.out _ HB1.out).mono ?_; rintro e w2 ⟨rfl, hb2⟩; have HB3 := Aside0.mk (below_then HB1.out HB1.out.size hb2); clear hb2)))
      go_ret2
      exact ⟨rfl, HB3.out⟩
    | some t =>
      rw [hb] at hZ HB
      subst hZ
      have HB2 : Aside0 (∀ w1, Below W.heap.size W w1 → Calls Tryd.prog 46 #[.slice A len c, .int .i64 (P - 1)] w1 fun e w' => e = .returned (.tuple #[.string (strB t.text), .bool true]) ∧ Below w1.heap.size w1 w') := ⟨HB.out⟩
      clear HB hb
      show Calls _ _ _ _ fun e w' => e = .returned (.tuple #[.string (strB t.text), .int .i64 0]) ∧ Below W.heap.size W w'
      generalize strB t.text = tx at HB2 ⊢
      go_enter Tryd.func18, Tryd.ntmps18
      go_wp2_with (first
        | (go_at_call 45; go_must (refine HA.out.mono ?_; rintro e w1 ⟨rfl, hb1⟩; have HB1 := Aside0.mk hb1; clear hb1))
        | (go_at_call 46; go_must (refine (HB2.out _ HB1.out).mono ?_; rintro e w2 ⟨rfl, hb2⟩; have HB3 := Aside0.mk (below_then HB1.out HB1.out.size hb2); clear hb2)))
      go_ret2
      exact ⟨rfl, HB3.out⟩
  · rw [if_neg h0] at hZ
    subst hZ
    obtain ⟨e1, e2⟩ := errne h0
    generalize askE n l = E at *
    clear hr hc h0
    go_enter Tryd.func18, Tryd.ntmps18
    go_wp2_with (go_at_call 45; go_must (refine HA.out.mono ?_; rintro e w1 ⟨rfl, hb1⟩; have HB1 := Aside0.mk hb1; clear hb1))
    go_ret2
    exact ⟨rfl, HB1.out⟩

/-! ### Knot -/
theorem knot_zero (l : List S44) (d : Nat) : knotF l (d + 1) 0 = knotF l d 1 := by
  rw [knotF, if_neg]
  unfold knotB
  rw [show decide (2 < pcN 0 8) = false by decide]
  exact Bool.false_ne_true
set_option maxRecDepth 100000 in
set_option maxHeartbeats 3200000 in
theorem RKnot_calls (n : Int) (A : Option Addr) (c : Nat) (l : List S44) (W : World) (hr : Kd.C k44 W A l.length l) (hc : l.length ≤ c) :
    Calls Tryd.prog 20 #[.int .i64 n, .slice A l.length c] W fun e w' => e = .returned (.tuple #[.int .i64 (knotE n l).1, .int .i64 (knotE n l).2]) ∧ Below W.heap.size W w' := by
  have HA := Aside0.mk (given_calls n A c l W hr hc)
  have HR := Aside0.mk hr
  obtain ⟨Z, hZ⟩ : ∃ Z, knotE n l = Z := ⟨_, rfl⟩
  rw [hZ]
  unfold knotE at hZ
  by_cases h0 : askE n l = 0
  · rw [if_pos h0] at hZ
    rw [h0] at HA
    obtain ⟨hn, hl, hok⟩ := askE_zero h0
    obtain ⟨m, rfl⟩ : ∃ m : Nat, n = m := ⟨n.toNat, by omega⟩
    rw [Int.toNat_natCast] at hZ
    have hm8 : m ≤ 8 := by omega
    have h8 : ∀ t ∈ l, Tri8 t := fun t ht => okTri_8 (by omega) (hok t ht)
    have hp := pow_256 hm8
    have hp1 := Nat.two_pow_pos m
    have HJ : Aside0 (∀ (s : Nat) w1, s < 256 → Below W.heap.size W w1 → Calls Tryd.prog 50 #[.slice A l.length c, .int .i64 (s : Int)] w1 fun e w' => ∃ v, e = .returned v ∧ Kd.R (Kd.int .i64) 3 w' w1.heap.size (fun _ => True) v ((partsF l s).map fun p : Nat => (p : Int)) ∧ Below w1.heap.size w1 w') := ⟨fun s w1 hs hb => by
      have := parts_calls A c l s hs h8 (by omega) w1 (Kd.C_below HR.out hb)
      rw [partsQ_F h8 hs] at this
      exact this⟩
    have hw1 := wrap_pow hm8
    have hw2 := wrap64_pow hm8
    generalize 2 ^ m = N at hp hp1 hw1 hw2 hZ
    obtain ⟨N', rfl⟩ : ∃ N', N = N' + 1 := ⟨N - 1, by omega⟩
    rw [knot_zero] at hZ
    obtain ⟨len, hlen⟩ : ∃ len, l.length = len := ⟨_, rfl⟩
    rw [hlen] at HA HJ ⊢
    clear hr hc hn hl hok h8 hlen
    have HZ := Aside0.mk hZ
    clear hZ
    go_enter Tryd.func20, Tryd.ntmps20
    go_upto_region 5 with (go_at_call 45; go_must (refine HA.out.mono ?_; rintro e w1 ⟨rfl, hb1⟩; have HB1 := Aside0.mk hb1; clear hb1))
    go_loopg [7] N' (fun gg v7 wr => ∃ k : Nat, 1 ≤ k ∧ k ≤ N' + 1 ∧ N' + 1 - k ≤ gg ∧ v7 = .int .i64 (k : Int) ∧ Aside0 ((match knotF l (N' + 1 - k) k with | some s => ((s : Int), (0 : Int)) | none => (0, 10)) = Z) ∧ Aside0 (Below W.heap.size W wr))
    case atStart => exact ⟨1, Nat.le_refl _, by omega, by omega, rfl, ⟨by rw [show N' + 1 - 1 = N' by omega]; exact HZ.out⟩, HB1⟩
    case round =>
      clear HZ HB1
      obtain ⟨k, hk1, hk, hgg, rfl, HZ, HB⟩ := hrel
      by_cases hkn : k < N' + 1
      · have hkz : (k : Int) < ((N' + 1 : Nat) : Int) := by omega
        have hk8 : k < 256 := by omega
        have HK : Aside0 (knotF l (N' + 1 - k) k = if knotB l k = true then some k else knotF l (N' + 1 - (k + 1)) (k + 1)) := ⟨by rw [show N' + 1 - k = (N' + 1 - (k + 1)) + 1 by omega, knotF]⟩
        have HO : Aside0 (Calls Tryd.prog 49 #[.int .i64 (k : Int)] wr fun e w' => e = .returned (.int .i64 (pcN k 8)) ∧ Below wr.heap.size wr w') := ⟨size_calls hk8 wr⟩
        have hpk := pcN_le k 8
        have HKB : Aside0 (knotB l k = (decide (2 < pcN k 8) && decide ((partsF l k).length = 1))) := ⟨rfl⟩
        generalize pcN k 8 = pk at HO hpk HKB
        by_cases h2 : 2 < pk
        · have h2z : (3 : Int) ≤ (pk : Int) := by omega
          have h2y : ¬ (pk : Int) < 3 := by omega
          by_cases h3 : (partsF l k).length = 1
          · have HZ2 : Aside0 (((k : Int), (0 : Int)) = Z) := ⟨by have := HZ.out; rwa [HK.out, HKB.out, decide_eq_true h2, decide_eq_true h3, Bool.and_true, if_pos rfl] at this⟩
            have hj1 : ((partsF l k).map fun p : Nat => (p : Int)).length = 1 := by rw [List.length_map, h3]
            clear h2 h3 HKB HK HZ
            go_wp2_with (first
              | (go_at_call 49; go_must (refine HO.out.mono ?_; rintro e w3 ⟨rfl, hb3⟩; have HB3 := Aside0.mk (below_then HB.out HB.out.size hb3); clear hb3))
              | (go_at_call 50; go_must (refine (HJ.out k _ hk8 HB3.out).mono ?_; rintro e w4 ⟨v4, rfl, hR4, hb4⟩; obtain ⟨A4, c4, rfl, _, _⟩ := Kd.R_reads hR4; rw [hj1]; have HB4 := Aside0.mk (below_then HB3.out HB3.out.size hb4); clear hR4 hb4)))
            go_ret2
            exact ⟨by rw [← HZ2.out]; rfl, HB4.out⟩
          · have HZ2 : Aside0 ((match knotF l (N' + 1 - (k + 1)) (k + 1) with | some s => ((s : Int), (0 : Int)) | none => (0, 10)) = Z) := ⟨by have := HZ.out; rwa [HK.out, HKB.out, decide_eq_false h3, Bool.and_false, if_neg Bool.false_ne_true] at this⟩
            have hj1 : (((((partsF l k).map fun p : Nat => (p : Int)).length : Nat) : Int) == 1) = false := by rw [List.length_map, beq_eq_false_iff_ne]; omega
            clear h2 h3 HKB HK HZ
            generalize hjl : ((partsF l k).map fun p : Nat => (p : Int)).length = jl at hj1
            go_wp2_with (first
              | (go_at_call 49; go_must (refine HO.out.mono ?_; rintro e w3 ⟨rfl, hb3⟩; have HB3 := Aside0.mk (below_then HB.out HB.out.size hb3); clear hb3))
              | (go_at_call 50; go_must (refine (HJ.out k _ hk8 HB3.out).mono ?_; rintro e w4 ⟨v4, rfl, hR4, hb4⟩; obtain ⟨A4, c4, rfl, _, _⟩ := Kd.R_reads hR4; rw [hjl]; have HB4 := Aside0.mk (below_then HB3.out HB3.out.size hb4); clear hR4 hb4)))
            go_roundg (N' - k)
            case measure => omega
            case rel => exact ⟨k + 1, by omega, by omega, by omega, by go_num, HZ2, HB4⟩
        · have h2z : ¬ (3 : Int) ≤ (pk : Int) := by omega
          have h2y : (pk : Int) < 3 := by omega
          have HZ2 : Aside0 ((match knotF l (N' + 1 - (k + 1)) (k + 1) with | some s => ((s : Int), (0 : Int)) | none => (0, 10)) = Z) := ⟨by have := HZ.out; rwa [HK.out, HKB.out, decide_eq_false h2, Bool.false_and, if_neg Bool.false_ne_true] at this⟩
          clear h2 HKB HK HZ
          go_wp2_with (go_at_call 49; go_must (refine HO.out.mono ?_; rintro e w3 ⟨rfl, hb3⟩; have HB3 := Aside0.mk (below_then HB.out HB.out.size hb3); clear hb3))
          go_roundg (N' - k)
          case measure => omega
          case rel => exact ⟨k + 1, by omega, by omega, by omega, by go_num, HZ2, HB3⟩
      · have hkz : ¬ (k : Int) < ((N' + 1 : Nat) : Int) := by omega
        have HZ2 : Aside0 (((0 : Int), (10 : Int)) = Z) := ⟨by have := HZ.out; rwa [show N' + 1 - k = 0 by omega, knotF] at this⟩
        go_wp2
        go_ret2
        exact ⟨by rw [← HZ2.out]; rfl, HB.out⟩
  · rw [if_neg h0] at hZ
    subst hZ
    obtain ⟨e1, e2⟩ := errne h0
    generalize askE n l = E at *
    clear hr hc h0
    go_enter Tryd.func20, Tryd.ntmps20
    go_wp2_with (go_at_call 45; go_must (refine HA.out.mono ?_; rintro e w1 ⟨rfl, hb1⟩; have HB1 := Aside0.mk hb1; clear hb1))
    go_ret2
    exact ⟨rfl, HB1.out⟩

/-! ### Joined -/
set_option maxRecDepth 100000 in
set_option maxHeartbeats 1600000 in
theorem RJoined_calls (n : Int) (A : Option Addr) (c : Nat) (l : List S44) (s : Int) (W : World) (hr : Kd.C k44 W A l.length l) (hc : l.length ≤ c) :
    Calls Tryd.prog 22 #[.int .i64 n, .slice A l.length c, .int .i64 s] W (RowE (joinE n l s) W) := by
  have HA := Aside0.mk (given_calls n A c l W hr hc)
  have HR := Aside0.mk hr
  obtain ⟨Z, hZ⟩ : ∃ Z, joinE n l s = Z := ⟨_, rfl⟩
  rw [hZ]
  unfold joinE at hZ
  by_cases h0 : askE n l = 0
  · rw [if_pos h0] at hZ
    rw [h0] at HA
    obtain ⟨hn, hl, hok⟩ := askE_zero h0
    obtain ⟨m, rfl⟩ : ∃ m : Nat, n = m := ⟨n.toNat, by omega⟩
    rw [Int.toNat_natCast] at hZ
    have hm8 : m ≤ 8 := by omega
    have h8 : ∀ t ∈ l, Tri8 t := fun t ht => okTri_8 (by omega) (hok t ht)
    have hp := pow_256 hm8
    have HJ : Aside0 (∀ (s : Nat) w1, s < 256 → Below W.heap.size W w1 → Calls Tryd.prog 50 #[.slice A l.length c, .int .i64 (s : Int)] w1 fun e w' => ∃ v, e = .returned v ∧ Kd.R (Kd.int .i64) 3 w' w1.heap.size (fun _ => True) v ((partsF l s).map fun p : Nat => (p : Int)) ∧ Below w1.heap.size w1 w') := ⟨fun s w1 hs hb => by
      have := parts_calls A c l s hs h8 (by omega) w1 (Kd.C_below HR.out hb)
      rw [partsQ_F h8 hs] at this
      exact this⟩
    have HLN : Aside0 (∀ s : Nat, s < 256 → ((partsF l s).map fun p : Nat => (p : Int)).length ≤ 1000) := ⟨fun s h => by
      have hP := parts_spec h8 h
      have h := asc_len (m := 8) ((partsF l s).map low) 0 (by rw [List.pairwise_map]; exact hP.apart.imp fun h => h.2) (fun x hx => by
        obtain ⟨p, hp, rfl⟩ := List.mem_map.mp hx
        exact ⟨Nat.zero_le _, low_lt (hP.ne p hp) (lt_of_bits (k := 8) fun i hi => bit_lt (k := 8) h (hP.sub p hp i hi))⟩) (by decide)
      rw [List.length_map] at h ⊢
      omega⟩
    have hw1 := wrap_pow hm8
    have hw2 := wrap64_pow hm8
    obtain ⟨len, hlen⟩ : ∃ len, l.length = len := ⟨_, rfl⟩
    rw [hlen] at HA HJ ⊢
    clear hr hc hn hl hok h8 hlen h0
    by_cases hs : 1 ≤ s ∧ s < ((2 ^ m : Nat) : Int)
    · rw [if_pos hs] at hZ
      obtain ⟨q, rfl⟩ : ∃ q : Nat, s = q := ⟨s.toNat, by omega⟩
      rw [Int.toNat_natCast] at hZ
      have hq8 : q < 256 := by omega
      have hs1 := hs.1
      have hs2 := hs.2
      have hs3 : ¬ ((q : Int) < 1) := by omega
      have hs4 : ¬ ((q : Int) ≥ ((2 ^ m : Nat) : Int)) := by omega
      have HZ := Aside0.mk hZ
      generalize ((2 ^ m : Nat) : Int) = P at hw1 hw2 hs2 hs4
      have HJS : Aside0 (joinedF l q = sortI ((partsF l q).map fun p : Nat => (p : Int))) := ⟨rfl⟩
      have HJ2 := Aside0.mk (fun w1 h => HJ.out q w1 hq8 h)
      have HLN2 := Aside0.mk (HLN.out q hq8)
      clear HJ HLN
      generalize (partsF l q).map (fun p : Nat => (p : Int)) = J at HJS HJ2 HLN2
      clear hs hp hZ
      go_enter Tryd.func22, Tryd.ntmps22
      go_wp2_with (first
        | (go_at_call 45; go_must (refine HA.out.mono ?_; rintro e w1 ⟨rfl, hb1⟩; have HB1 := Aside0.mk hb1; clear hb1))
        | (go_at_call 50; go_must (refine (HJ2.out _ HB1.out).mono ?_; rintro e w4 ⟨v4, rfl, hR4, hb4⟩; obtain ⟨A4, c4, rfl, hc4, hC4⟩ := Kd.R_reads hR4; have HC4 := Aside0.mk hC4; have HCC4 := Aside0.mk hc4; have HB4 := Aside0.mk (below_then HB1.out HB1.out.size hb4); clear hR4 hb4 hc4 hC4))
        | (go_at_call 51; go_must (refine (asc_calls A4 c4 J HLN2.out _ HC4.out HCC4.out).mono ?_; rintro e w5 ⟨v5, rfl, hR5, hb5⟩; have HR5 := Aside0.mk (Kd.R_lower hR5 HB4.out.size); have HB5 := Aside0.mk (below_then HB4.out HB4.out.size hb5); clear hR5 hb5)))
      go_ret2
      exact ⟨v5, by rw [← HZ.out]; rfl, by rw [← HZ.out]; show Kd.R _ _ _ _ _ _ (joinedF l q); rw [HJS.out]; exact HR5.out, HB5.out⟩
    · rw [if_neg hs] at hZ
      have HZ := Aside0.mk hZ
      generalize ((2 ^ m : Nat) : Int) = P at hw1 hw2 hs
      clear hp hZ
      by_cases hs1 : s < 1
      · clear hs
        go_enter Tryd.func22, Tryd.ntmps22
        go_wp2_with (go_at_call 45; go_must (refine HA.out.mono ?_; rintro e w1 ⟨rfl, hb1⟩; have HB1 := Aside0.mk hb1; clear hb1))
        go_ret2
        exact ⟨_, by rw [← HZ.out]; rfl, by rw [← HZ.out]; exact Kd.R_nil _ _ _ _ _, HB1.out⟩
      · have hs2 : ¬ s < P := by omega
        have hs3 : s ≥ P := by omega
        clear hs
        go_enter Tryd.func22, Tryd.ntmps22
        go_wp2_with (go_at_call 45; go_must (refine HA.out.mono ?_; rintro e w1 ⟨rfl, hb1⟩; have HB1 := Aside0.mk hb1; clear hb1))
        go_ret2
        exact ⟨_, by rw [← HZ.out]; rfl, by rw [← HZ.out]; exact Kd.R_nil _ _ _ _ _, HB1.out⟩
  · rw [if_neg h0] at hZ
    subst hZ
    obtain ⟨e1, e2⟩ := errne h0
    generalize askE n l = E at *
    clear hr hc h0
    go_enter Tryd.func22, Tryd.ntmps22
    go_wp2_with (go_at_call 45; go_must (refine HA.out.mono ?_; rintro e w1 ⟨rfl, hb1⟩; have HB1 := Aside0.mk hb1; clear hb1))
    go_ret2
    exact ⟨_, rfl, Kd.R_nil _ _ _ _ _, HB1.out⟩
end Go.Proofs.YtdbbcngmnpejnaaDoor.B

/- BreedBuilds, walked: it returns true. -/
namespace Go.Proofs.YtdbbcngmnpejnaaDoor.B
open Go.Proofs.YtdbbcngmnpejnaaDoor.A
open Go.RowKit Go.Proofs.YtdbbcngmnpejnaaDoorW.PrintWords Go.Proofs.YtdbbcngmnpejnaaDoorW.PrintMore

set_option maxRecDepth 100000 in
set_option maxHeartbeats 6400000 in
theorem builds_any (n : Int) (A : Option Addr) (c : Nat) (l : List S44) (q : Int) (W : World) (hr : Kd.C k44 W A l.length l) (hc : l.length ≤ c) (hT : TabAt W) :
    Calls Tryd.prog 4 #[.int .i64 n, .slice A l.length c, .int .i64 q] W fun e w' => e = .returned (.bool true) ∧ Below W.heap.size W w' := by
  have HT := Aside0.mk hT
  have HR := Aside0.mk hr
  have HC := Aside0.mk hc
  have HFW : Aside0 (Calls Tryd.prog 16 #[.slice A l.length c, .string { data := #[] }] W fun e w' => e = .returned (.bool (decide (l.length ≤ 100))) ∧ Below W.heap.size W w') := ⟨by
    have h := few_calls A c l ⟨#[]⟩ W hr hc
    rw [show decide (l.length ≤ 100 ∧ (⟨#[]⟩ : ByteArray).size ≤ 100) = decide (l.length ≤ 100) by rw [decide_eq_decide]; exact ⟨fun h => h.1, fun h => ⟨h, by decide⟩⟩] at h
    exact h⟩
  have HAL : Aside0 (∀ w, Below W.heap.size W w → Calls Tryd.prog 15 #[] w fun e w' => e = .returned (.bool true) ∧ Below w.heap.size w w') := ⟨fun w hb => alive_calls w (HT.out.next hb)⟩
  by_cases hfew : l.length ≤ 100
  · rw [decide_eq_true hfew] at HFW
    have hl100 := hfew
    have HP : Aside0 (∀ w A' c', Below W.heap.size W w → l.length ≤ c' → Kd.C k44 w A' l.length l → Calls Tryd.prog 17 #[.int .i64 n, .slice A' l.length c'] w fun e w' => e = .returned (.tuple #[.string (buildE n l).1, .int .i64 (buildE n l).2]) ∧ Below w.heap.size w w') := ⟨fun w A' c' hb hc' hC => Build_calls n A' c' l w hC hc' (HT.out.next hb)⟩
    have HQ : Aside0 (∀ w, Below W.heap.size W w → Calls Tryd.prog 18 #[.int .i64 n, .slice A l.length c] w fun e w' => e = .returned (.tuple #[.string (buildE n l).1, .int .i64 (buildE n l).2]) ∧ Below w.heap.size w w') := ⟨fun w hb => RBuild_calls n A c l w (Kd.C_below HR.out hb) HC.out⟩
    have HP2 : Aside0 (∀ w A' c', Below W.heap.size W w → l.length ≤ c' → Kd.C k44 w A' l.length l → Calls Tryd.prog 19 #[.int .i64 n, .slice A' l.length c'] w fun e w' => e = .returned (.tuple #[.int .i64 (knotE n l).1, .int .i64 (knotE n l).2]) ∧ Below w.heap.size w w') := ⟨fun w A' c' hb hc' hC => Knot_calls n A' c' l w hC hc'⟩
    have HQ2 : Aside0 (∀ w, Below W.heap.size W w → Calls Tryd.prog 20 #[.int .i64 n, .slice A l.length c] w fun e w' => e = .returned (.tuple #[.int .i64 (knotE n l).1, .int .i64 (knotE n l).2]) ∧ Below w.heap.size w w') := ⟨fun w hb => RKnot_calls n A c l w (Kd.C_below HR.out hb) HC.out⟩
    have HP3 : Aside0 (∀ w A' c', Below W.heap.size W w → l.length ≤ c' → Kd.C k44 w A' l.length l → Calls Tryd.prog 21 #[.int .i64 n, .slice A' l.length c', .int .i64 q] w (RowE (joinE n l q) w)) := ⟨fun w A' c' hb hc' hC => Joined_calls n A' c' l q w hC hc'⟩
    have HQ3 : Aside0 (∀ w, Below W.heap.size W w → Calls Tryd.prog 22 #[.int .i64 n, .slice A l.length c, .int .i64 q] w (RowE (joinE n l q) w)) := ⟨fun w hb => RJoined_calls n A c l q w (Kd.C_below HR.out hb) HC.out⟩
    generalize (buildE n l).1 = b1 at HP HQ
    generalize (buildE n l).2 = b2 at HP HQ
    generalize (knotE n l).1 = k1 at HP2 HQ2
    generalize (knotE n l).2 = k2 at HP2 HQ2
    generalize joinE n l q = Z at HP3 HQ3
    obtain ⟨J, je⟩ := Z
    unfold RowE at HP3 HQ3
    dsimp only at HP3 HQ3
    clear hr hc hT hfew
    go_enter Tryd.func4, Tryd.ntmps4
    go_upto_region 3 with (go_at_call 16; go_must (refine HFW.out.mono ?_; rintro e w1 ⟨rfl, hb⟩; have HB1 := Aside0.mk hb; clear hb))
    go_upto_region 4 with (first
      | ((with_reducible refine gate_dst (N := 21) rfl ?_); refine Kd.R_lit k44 w1.heap.size 44 ?hg (N := 21) ?hd (xs := ([] : List S44)) (inner := []) (ok := fun _ => True) (okp := fun _ => True) ?hr ?hp (fun _ hk => hk) trivial (Below.refl _ _) (Nat.le_refl _) (by simp) ?_; (case hd => rfl); (case hg => rfl); (case hr => first | (go_simp; done) | (go_simp; rfl)); (case hp => exact (Reps.none _ _)); intro v7 w7 ho7 hb7 _ _; have HO7 := Aside0.mk ho7; have HB7 := Aside0.mk hb7; clear ho7 hb7)
      | (at_builtin; go_must (refine Kd.R_append_rows k44 (Rr := k44.K w7) (w0 := w7) w1.heap.size rfl (.tmp 21) (.tmp 22) 27 44 _ _ rfl Tryd.underlying27 info44 rfl (by decide) (by decide) v7 [] l A l.length c (fun _ => True) (fun _ => False) rfl rfl HO7.out (Kd.C_below (Kd.C_below HR.out HB1.out) HB7.out) (fun _ _ h => h) (fun _ hk => hk.elim) (fun _ _ => trivial) (Below.refl _ _) HB7.out.size (by simp <;> omega) ?_; intro v8 w8 ho8 hb8 _ _; rw [List.nil_append] at ho8; obtain ⟨A8, c8, hv8, hc8, hC8⟩ := Kd.R_reads ho8; subst hv8; have HC8 := Aside0.mk hC8; have HCC8 := Aside0.mk hc8; have BASE : Aside0 (Below W.heap.size W w8) := ⟨below_then HB1.out HB1.out.size (HB7.out.trans hb8)⟩; have HB : Aside0 (Below w8.heap.size w8 w8) := ⟨Below.refl _ _⟩; clear ho8 hb8 hC8 hc8)))
    go_upto_region 17 with (first
      | (go_at_call 17; go_must (refine (HP.out _ A8 c8 (below_then BASE.out BASE.out.size HB.out) HCC8.out (Kd.C_below HC8.out HB.out)).mono ?_; rintro e w9 ⟨rfl, hb⟩; replace HB := Aside0.mk (HB.out.trans (hb.mono HB.out.size)); clear hb))
      | (go_at_call 18; go_must (refine (HQ.out _ (below_then BASE.out BASE.out.size HB.out)).mono ?_; rintro e wa ⟨rfl, hb⟩; replace HB := Aside0.mk (HB.out.trans (hb.mono HB.out.size)); clear hb))
      | (go_at_call 19; go_must (refine (HP2.out _ A8 c8 (below_then BASE.out BASE.out.size HB.out) HCC8.out (Kd.C_below HC8.out HB.out)).mono ?_; rintro e wb ⟨rfl, hb⟩; replace HB := Aside0.mk (HB.out.trans (hb.mono HB.out.size)); clear hb))
      | (go_at_call 20; go_must (refine (HQ2.out _ (below_then BASE.out BASE.out.size HB.out)).mono ?_; rintro e wc ⟨rfl, hb⟩; replace HB := Aside0.mk (HB.out.trans (hb.mono HB.out.size)); clear hb))
      | (go_at_call 21; go_must (refine (HP3.out _ A8 c8 (below_then BASE.out BASE.out.size HB.out) HCC8.out (Kd.C_below HC8.out HB.out)).mono ?_; rintro e wd ⟨v14, rfl, hR, hb⟩; obtain ⟨A14, c14, rfl, _, hC⟩ := Kd.R_reads hR; have HC14 := Aside0.mk hC; replace HB := Aside0.mk (HB.out.trans (hb.mono HB.out.size)); clear hb hC hR))
      | (go_at_call 22; go_must (refine (HQ3.out _ (below_then BASE.out BASE.out.size HB.out)).mono ?_; rintro e we ⟨v15, rfl, hR, hb⟩; obtain ⟨A15, c15, rfl, _, hC⟩ := Kd.R_reads hR; have HC15 := Aside0.mk hC; replace HC14 := Aside0.mk (Kd.C_below HC14.out hb); replace HB := Aside0.mk (HB.out.trans (hb.mono HB.out.size)); clear hb hC hR)))
    obtain ⟨m, hm⟩ : ∃ m, J.length = m := ⟨_, rfl⟩
    have hm2 : m ≤ 9223372036854775807 := by have := HC14.out.2.1; omega
    rw [hm] at HC14 HC15 ⊢
    have HM := Aside0.mk hm
    clear hm
    go_loopg [16] m (fun gg v16 wr => ∃ k : Nat, k ≤ m ∧ m - k ≤ gg ∧ v16 = .int .i64 (k : Int) ∧ Aside0 (Below we.heap.size we wr))
    case atStart => exact ⟨0, Nat.zero_le _, by omega, rfl, ⟨Below.refl _ _⟩⟩
    case round =>
      obtain ⟨k, hk, hgg, rfl, HBR⟩ := hrel
      by_cases hkm : k < m
      · have hkz : (k : Int) < (m : Int) := by omega
        obtain ⟨ad, had, hx0⟩ := Kd.at_int (Kd.C_below HC14.out HBR.out) (k : Int) (by omega) (by omega)
        obtain ⟨ad2, had2, hy0⟩ := Kd.at_int (Kd.C_below HC15.out HBR.out) (k : Int) (by omega) (by omega)
        subst had had2
        rw [Int.toNat_natCast] at hx0 hy0
        generalize rd J (k : Int) = jj at hx0 hy0
        go_upto_region 19 with fail
        go_region
        go_wp2
        go_roundg (m - (k + 1))
        case measure => omega
        case rel => exact ⟨k + 1, by omega, by omega, by go_num, ⟨by first | exact HBR.out | exact below_drew HBR.out | exact pw_below_drewN HBR.out _⟩⟩
      · have hkz : ¬ (k : Int) < (m : Int) := by omega
        have HB2 : Aside0 (Below w8.heap.size w8 wr) := ⟨HB.out.trans (HBR.out.mono HB.out.size)⟩
        go_wp2_with (first
          | (go_at_call 23; go_must (refine (same_calls A8 c8 l A c l _ (Kd.C_below HC8.out HB2.out) HCC8.out (Kd.C_below HR.out (below_then BASE.out BASE.out.size HB2.out)) HC.out).mono ?_; rintro e wb ⟨rfl, hb⟩; rw [decide_eq_true (show l = l from rfl)]; have HBb := Aside0.mk (below_then (below_then BASE.out BASE.out.size HB2.out) (below_then BASE.out BASE.out.size HB2.out).size hb); clear hb))
          | (go_at_call 15; go_must (refine (HAL.out _ HBb.out).mono ?_; rintro e wc ⟨rfl, hb⟩; have HBc := Aside0.mk (below_then HBb.out HBb.out.size hb); clear hb)))
        go_ret
        exact ⟨rfl, HBc.out⟩
  · rw [decide_eq_false hfew] at HFW
    obtain ⟨len, hlen⟩ : ∃ len, l.length = len := ⟨_, rfl⟩
    rw [hlen] at HFW ⊢
    clear hr hc hT hfew hlen
    go_enter Tryd.func4, Tryd.ntmps4
    go_wp2_with (first
      | (go_at_call 16; go_must (refine HFW.out.mono ?_; rintro e w1 ⟨rfl, hb⟩; have HB1 := Aside0.mk hb; clear hb))
      | (go_at_call 15; go_must (refine (HAL.out _ HB1.out).mono ?_; rintro e w2 ⟨rfl, hb⟩; have HB2 := Aside0.mk (below_then HB1.out HB1.out.size hb); clear hb)))
    go_ret
    exact ⟨rfl, HB2.out⟩
end Go.Proofs.YtdbbcngmnpejnaaDoor.B

/- An argument that is a slice of triples, opened to a row of cells. -/
namespace Go.Proofs.YtdbbcngmnpejnaaDoor.A
open Go.ChangeShapes Go.WideShapes Go.Deep
open Go.RowKit Go.Proofs.YtdbbcngmnpejnaaDoorW.PrintWords

theorem list_of {α : Type} {P : Nat → α → Prop} : ∀ n, (∀ i, i < n → ∃ x, P i x) → ∃ l : List α, l.length = n ∧ ∀ (i : Nat) (x : α), l[i]? = some x → P i x := by
  intro n
  induction n with
  | zero => exact fun _ => ⟨[], rfl, fun i x h => by simp at h⟩
  | succ n ih =>
    intro h
    obtain ⟨l, hl, hp⟩ := ih (fun i hi => h i (by omega))
    obtain ⟨x, hx⟩ := h n (by omega)
    refine ⟨l ++ [x], by simp [hl], fun i y hy => ?_⟩
    by_cases hi : i < l.length
    · rw [List.getElem?_append_left hi] at hy
      exact hp i y hy
    · have e : i = n := by
        have := (List.getElem?_eq_some_iff.1 hy).1
        rw [List.length_append, List.length_singleton] at this
        omega
      subst e
      have : x = y := by simpa [← hl] using hy
      subst this
      exact hx

set_option maxRecDepth 100000 in
theorem open_triples {H : Type} {enc : TypeId × Value → H} {W : World} {a : Option Addr} {len cap : Nat} {d : DataW H} {p : List MemPlace} (h : DataW.Trod enc Tryd.prog W 0 (fun _ => true) true 27 (.slice a len cap) d p) :
    ∃ ps : List S44, ps.length = len ∧ len ≤ cap ∧ cap ≤ maxLen ∧ Kd.C k44 W a len ps := by
  obtain ⟨fuel, hf⟩ := h
  rcases open_slice Tryd.underlying27 hf with ⟨hcs, _⟩ | ⟨x, l, c, m, n, D, Pl, hcs, _, hl, hm, hmm, _, hi⟩
  · simp [Value.cells] at hcs
    obtain ⟨rfl, rfl, rfl⟩ := hcs
    exact ⟨[], rfl, Nat.le_refl _, Nat.zero_le _, rfl, by omega, fun h => absurd h (by omega)⟩
  · simp [Value.cells] at hcs
    obtain ⟨rfl, rfl, rfl⟩ := hcs
    have hC : Tryd.prog.cellsOf 44 = 3 := by kernel_rfl
    have he : ∀ i, i < len → ∃ q : S44, W.cell? (x.add (i * 3)) = some (.int .i64 q.f0) ∧ W.cell? (x.add (i * 3 + 1)) = some (.int .i64 q.f1) ∧ W.cell? (x.add (i * 3 + 2)) = some (.int .i64 q.f2) := by
      intro i hil
      obtain ⟨cs', hc, ht'⟩ := hi i (by rw [hmm, if_pos rfl]; omega)
      rw [hC] at hc
      obtain ⟨ys, n', _, _, hlen, hyl, hfd⟩ := DataW.trod_struct Tryd.underlying44 ht'
      obtain ⟨_, hcl, hat⟩ := World.cells?_some hc
      have h0 := hfd 0 _ rfl
      have h1 := hfd 1 _ rfl
      have h2 := hfd 2 _ rfl
      match cs', hcl, ys, hyl with
      | [c0, c1, c2], _, [y0, y1, y2], _ =>
        have e0 : Tryd.prog.cellsOf 3 = 1 := by kernel_rfl
        simp [e0] at h0 h1 h2
        obtain ⟨n0, hn0, _, _⟩ := DataW.trod_int Tryd.underlying3 h0
        obtain ⟨n1, hn1, _, _⟩ := DataW.trod_int Tryd.underlying3 h1
        obtain ⟨n2, hn2, _, _⟩ := DataW.trod_int Tryd.underlying3 h2
        simp at hn0 hn1 hn2
        subst hn0 hn1 hn2
        refine ⟨⟨n0, n1, n2⟩, ?_, ?_, ?_⟩
        · have := hat 0 (by omega)
          rw [Go.Deep.add_add] at this
          exact this
        · have := hat 1 (by omega)
          rw [Go.Deep.add_add] at this
          exact this
        · have := hat 2 (by omega)
          rw [Go.Deep.add_add] at this
          exact this
    obtain ⟨ps, hps, hall⟩ := list_of len he
    refine ⟨ps, hps, hl, hm, hps, by unfold maxLen at hm; omega, fun _ => ⟨x, rfl, fun j q hj => ⟨[.int .i64 q.f0, .int .i64 q.f1, .int .i64 q.f2], rfl, k44_mk W q, fun i u hu => ?_⟩⟩⟩
    obtain ⟨g0, g1, g2⟩ := hall j q hj
    match i, hu with
    | 0, hu => cases hu; exact g0
    | 1, hu => cases hu; exact g1
    | 2, hu => cases hu; exact g2
end Go.Proofs.YtdbbcngmnpejnaaDoor.A
