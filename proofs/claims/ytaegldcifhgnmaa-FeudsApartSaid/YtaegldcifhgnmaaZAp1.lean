/- Apart: the map of the first list of each set of ties: what it holds while rings are gone through. -/
import Derived.Test.YtaegldcifhgnmaaZAp0
import Derived.Maps.OwnSet
import Derived.Maps.RangeWalk
import Derived.Ground.SlsfProg
import Derived.Shelf.SlSortCmp.Whole1
import Derived.Shelf.SlSortCmp.NoneTotal
import Derived.Test.YtaegldcifhgnmaaProg
import Derived.Lib.SliceRun
import Derived.Sort.OwnSortedInts
import Derived.Deep.RegionHeld3
import Derived.Maps.OwnOps
import Derived.Below
import Derived.Deep.Draws
import Derived.Deep.AppendLies
import Derived.Maps.AppendAt
import Derived.OwnWalk
import Derived.Laws.BytesArg
import Derived.Laws.MakeOwn
import Derived.Laws.OwnMore
import Derived.Deep.OwnRows
import Derived.Tactics
import Derived.Lib.ConvBytes
import Derived.Laws.Slices
import Derived.WalkKit
import Derived.KernelRfl
import Derived.RowKit3
import Derived.Deep.LoopGhost
import Derived.Deep.QuietTactic
import Derived.BigQuiet
import Derived.WideLaws
import Derived.Deep.DeepCutAuto
import Derived.Deep.CutBlock
import Derived.Laws.Rows
import Derived.Lib.AppendStr
import Derived.ArgAppend
import Derived.Laws.IdiomCopy
import Derived.OrdersHeld
import Derived.Laws.BitsLemmas
import Derived.RowKit
import Derived.Test.YtaegldcifhgnmaaWWords
import Derived.Test.YtaegldcifhgnmaaWLast
import Derived.Test.YtaegldcifhgnmaaWTab
import Derived.Test.YtaegldcifhgnmaaWFour
import Derived.Test.YtaegldcifhgnmaaWQPut
import Derived.Test.YtaegldcifhgnmaaWApart
import Derived.Test.YtaegldcifhgnmaaWArr
import Derived.Test.YtaegldcifhgnmaaWZeros
import Derived.Test.YtaegldcifhgnmaaWFoot
import Derived.Test.YtaegldcifhgnmaaWKept
import Derived.Test.YtaegldcifhgnmaaWShare
import Derived.Test.YtaegldcifhgnmaaWN
import Derived.Test.YtaegldcifhgnmaaWFootNe
import Derived.Test.YtaegldcifhgnmaaWAt
import Derived.Test.YtaegldcifhgnmaaWEqStruct
import Derived.Test.YtaegldcifhgnmaaWRepsOne
import Derived.Test.YtaegldcifhgnmaaWInv
import Derived.Test.YtaegldcifhgnmaaWInvWords
import Derived.Test.YtaegldcifhgnmaaWGuard
import Derived.Test.YtaegldcifhgnmaaWNEv
import Derived.Test.YtaegldcifhgnmaaWMore
/- Apart: the map of the first list of each set of ties: what it holds while rings are gone through. -/
namespace Go.Proofs.Ytaegldcifhgnmaa.A
open Go.RowKit Go.Proofs.YtaegldcifhgnmaaW.PrintWords Go.Proofs.YtaegldcifhgnmaaW.PrintMore

/-! ### plain -/
/-- The set of a list's ties. -/
def setI (now : List Int) : Nat := now.foldl (fun s x => s ||| 2 ^ x.toNat) 0
theorem setI_snoc (now : List Int) (x : Int) : setI (now ++ [x]) = setI now ||| 2 ^ x.toNat := by unfold setI; rw [List.foldl_append]; rfl
theorem setI_lt {m : Nat} : ∀ {now : List Int}, (∀ x ∈ now, 0 ≤ x ∧ x < (m : Int)) → setI now < 2 ^ m := by
  have key : ∀ (now : List Int) (s : Nat), s < 2 ^ m → (∀ x ∈ now, 0 ≤ x ∧ x < (m : Int)) → now.foldl (fun s x => s ||| 2 ^ x.toNat) s < 2 ^ m := by
    intro now
    induction now with
    | nil => exact fun s hs _ => hs
    | cons x now ih =>
      intro s hs h
      have hx := h x List.mem_cons_self
      exact ih _ (or_lt hs (Nat.pow_lt_pow_right (by decide) (by omega))) fun y hy => h y (List.mem_cons_of_mem x hy)
  exact fun {now} h => key now 0 (Nat.two_pow_pos m) h
/-- The first lists, with one more list gone through. -/
def stepA (f : Nat → Option (List Int)) (now : List Int) (fe : Nat) : Nat → Option (List Int) :=
  if oddB fe && (match f (setI now) with | none => true | some b => decide (cmpL now b < 0)) then fun k => if k = setI now then some now else f k else f

/-! ### how a slice's head reads, as an element of a map -/
abbrev DU := DataW Unit
def hdD (g n c : Nat) : DU := .agg [.lit (.int .i64 g), .lit (.int .i64 n), .lit (.int .i64 c)]
theorem hdD_inj {g n c g' n' c' : Nat} (h : hdD g n c = hdD g' n' c') : g = g' ∧ n = n' ∧ c = c' := by
  unfold hdD at h
  injection h with h
  simp only [List.cons.injEq, DataW.lit.injEq, Lit.int.injEq, and_true, true_and] at h
  omega
def RV (v : Value) : Option (DU × List MemPlace) :=
  match v with
  | .slice (some a) n c => if a.off = 0 ∧ a.spot = none then some (hdD a.block n c, []) else none
  | .slice none n c => if n = 0 ∧ c = 0 then some (.nil, []) else none
  | _ => none
theorem RV_some (g n c : Nat) : RV (.slice (some ⟨g, 0, none⟩) n c) = some (hdD g n c, []) := by simp [RV]
theorem RV_nil : RV (.slice none 0 0) = some (.nil, []) := by simp [RV]
theorem RV_inv {v : Value} {y : DU × List MemPlace} (h : RV v = some y) : (v = .slice none 0 0 ∧ y = (.nil, [])) ∨ ∃ g n c, v = .slice (some ⟨g, 0, none⟩) n c ∧ y = (hdD g n c, []) := by
  unfold RV at h
  split at h
  · rename_i a n c
    split at h
    · rename_i h2
      obtain ⟨b, o, s⟩ := a
      simp only at h2
      obtain ⟨rfl, rfl⟩ := h2
      exact .inr ⟨b, n, c, rfl, (Option.some.inj h).symm⟩
    · cases h
  · rename_i n c
    split at h
    · rename_i h2
      obtain ⟨rfl, rfl⟩ := h2
      exact .inl ⟨rfl, (Option.some.inj h).symm⟩
    · cases h
  · cases h
theorem RV_hd {v : Value} {ps : List MemPlace} {g n c : Nat} (h : RV v = some (hdD g n c, ps)) : v = .slice (some ⟨g, 0, none⟩) n c := by
  rcases RV_inv h with ⟨_, e⟩ | ⟨g', n', c', rfl, e⟩
  · injection e with e1 _
    cases e1
  · injection e with e1 _
    obtain ⟨rfl, rfl, rfl⟩ := hdD_inj e1
    rfl

/-! ### keys -/
theorem keyed3 : Maps.Keyed Try.prog 3 := Maps.int_keyed Try.underlying3
theorem lit64 {k : Nat} (h : k < 2 ^ 60) : (Lit.int .i64 (k : Int)).wf = true := by
  have e1 : IntKind.i64.min = -9223372036854775808 := rfl
  have e2 : IntKind.i64.max = 9223372036854775807 := rfl
  simp only [Lit.wf, Bool.and_eq_true, decide_eq_true_iff, e1, e2]
  omega
theorem key64 {k : Nat} (h : k < 2 ^ 60) : keyOf Try.prog 3 (.int .i64 (k : Int)) = some (.int .i64 (k : Int)) := Maps.keyOf_int_mk Try.underlying3 (lit64 h)
theorem isKey64 {k : Nat} (h : k < 2 ^ 60) : WideAt.IsKeyLit (.int .i64 (k : Int)) := keyed3.key (key64 h)
theorem kl_ne {k k' : Nat} (h : k ≠ k') : (Lit.int .i64 (k : Int)) ≠ .int .i64 (k' : Int) := fun e => by
  injection e with _ e2
  omega

/-! ### the map -/
section
variable {w : World} {mb n : Nat} {D : DU}
theorem owns_tight (h : w.ownsMap Try.prog 3 RV mb n D) : w.ownsMap Try.prog 3 RV mb (Maps.size D) D := by
  obtain ⟨es, clock, hb, F, _, rfl⟩ := h
  refine ⟨es, clock, hb, F, ?_, rfl⟩
  show es.size ≤ List.length _
  rw [length_read]
  exact Nat.le_refl _
theorem owns_move {w' : World} (h : w.ownsMap Try.prog 3 RV mb n D) (hm : w'.heap[mb]? = w.heap[mb]?) : w'.ownsMap Try.prog 3 RV mb n D := by
  obtain ⟨es, clock, hb, F, hs, hD⟩ := h
  exact ⟨es, clock, hm.trans hb, F, hs, hD⟩
theorem nodup_short : ∀ (n : Nat) (L : List Nat), L.Nodup → (∀ x ∈ L, x < n) → L.length ≤ n
  | 0, L, _, h => by
    cases L with
    | nil => exact Nat.le_refl _
    | cons x L => exact absurd (h x List.mem_cons_self) (Nat.not_lt_zero x)
  | n + 1, L, hn, h => by
    by_cases hm : n ∈ L
    · have h1 := nodup_short n (L.erase n) (hn.erase n) (fun x hx => by
        have h2 := (List.Nodup.mem_erase_iff hn).mp hx
        have := h x h2.2
        have := h2.1
        omega)
      rw [List.length_erase_of_mem hm] at h1
      omega
    · have := nodup_short n L hn (fun x hx => by
        have h1 := h x hx
        have h2 : x ≠ n := fun e => hm (e ▸ hx)
        omega)
      omega
theorem owns_few (h : w.ownsMap Try.prog 3 RV mb n D) (hk : ∀ kl, Maps.has D kl = true → ∃ k : Nat, k < 2 ^ 60 ∧ kl = .int .i64 (k : Int)) : Maps.size D ≤ 2 ^ 60 := by
  obtain ⟨es, rfl, hp, hkl⟩ := h.entries keyed3
  rw [Maps.size_eq]
  have hn : ∀ p ∈ es, ∃ k : Nat, k < 2 ^ 60 ∧ p.1 = .int .i64 (k : Int) := fun p hp' => hk p.1 (by
    rw [Maps.has_eq, List.any_eq_true]
    exact ⟨p, hp', WideAt.sameKey_self (hkl p hp')⟩)
  have key : ∀ es : List (Lit × DU), es.Pairwise (fun p q => p.1 ≠ q.1) → (∀ p ∈ es, ∃ k : Nat, k < 2 ^ 60 ∧ p.1 = .int .i64 (k : Int)) → ∃ L : List Nat, L.length = es.length ∧ L.Nodup ∧ (∀ x ∈ L, x < 2 ^ 60) ∧ ∀ x ∈ L, ∃ p ∈ es, p.1 = .int .i64 (x : Int) := by
    intro es
    induction es with
    | nil => exact fun _ _ => ⟨[], rfl, List.nodup_nil, fun x hx => (by cases hx), fun x hx => (by cases hx)⟩
    | cons p es ih =>
      intro h1 h2
      obtain ⟨h3, h4⟩ := List.pairwise_cons.mp h1
      obtain ⟨L, h5, h6, h7, h8⟩ := ih h4 fun q hq => h2 q (List.mem_cons_of_mem p hq)
      obtain ⟨k, hk1, hk2⟩ := h2 p List.mem_cons_self
      refine ⟨k :: L, by rw [List.length_cons, List.length_cons, h5], List.nodup_cons.mpr ⟨fun hm => ?_, h6⟩, fun x hx => ?_, fun x hx => ?_⟩
      · obtain ⟨q, hq, e⟩ := h8 k hm
        exact h3 q hq (hk2.trans e.symm)
      · rcases List.mem_cons.mp hx with e | e
        · rw [e]; exact hk1
        · exact h7 x e
      · rcases List.mem_cons.mp hx with e | e
        · rw [e]; exact ⟨p, List.mem_cons_self, hk2⟩
        · obtain ⟨q, hq, e2⟩ := h8 x e
          exact ⟨q, List.mem_cons_of_mem p hq, e2⟩
  obtain ⟨L, h5, h6, h7, _⟩ := key es hp hn
  rw [← h5]
  exact nodup_short _ L h6 h7
end

/-- A row of numbers lies in a block of its own. -/
def RowAt (W : World) (g : Nat) (b : List Int) : Prop := (∃ cs, W.heap[g]? = some (.cells cs 3 (0, 0))) ∧ Kd.C (Kd.int .i64) W (some ⟨g, 0, none⟩) b.length b
theorem RowAt.move {W W' : World} {g : Nat} {b : List Int} (h : RowAt W g b) (hm : W'.heap[g]? = W.heap[g]?) : RowAt W' g b :=
  ⟨by obtain ⟨cs, e⟩ := h.1; exact ⟨cs, hm.trans e⟩, C_moveI h.2 fun ad e _ => by cases e; exact hm⟩
theorem RowAt.lt {W : World} {g : Nat} {b : List Int} (h : RowAt W g b) : g < W.heap.size := by obtain ⟨cs, e⟩ := h.1; exact blk_lt e
/-- What the memory holds: the cell cb holds the map in block mb, whose elements are the heads of rows of its own. -/
structure FirstIs (cb mb : Nat) (f : Nat → Option (List Int)) (S : Nat → Prop) (W : World) : Prop where
  cell : W.heap[cb]? = some (.cells #[.map (some mb)] 76 (0, 0))
  scb : S cb
  smb : S mb
  ne : cb ≠ mb
  lt : ∀ k, S k → k < W.heap.size
  map : ∃ D : DU, W.ownsMap Try.prog 3 RV mb (Maps.size D) D ∧ (∀ kl, Maps.has D kl = true → ∃ k : Nat, k < 2 ^ 60 ∧ kl = .int .i64 (k : Int) ∧ f k ≠ none) ∧
    ∀ k b, f k = some b → ∃ g c, k < 2 ^ 60 ∧ Maps.has D (.int .i64 (k : Int)) = true ∧ (∀ z, D.atKey (.int .i64 (k : Int)) z = hdD g b.length c) ∧ b ≠ [] ∧ b.length ≤ 1000 ∧ b.length ≤ c ∧ S g ∧ RowAt W g b
section
variable {cb mb : Nat} {f : Nat → Option (List Int)} {S : Nat → Prop} {W : World}
theorem first_keep {W' : World} (h : FirstIs cb mb f S W) (hk : ∀ k, S k → W'.heap[k]? = W.heap[k]?) : FirstIs cb mb f S W' := by
  obtain ⟨h1, h2, h3, h4, h5, D, h6, h7, h8⟩ := h
  refine ⟨(hk cb h2).trans h1, h2, h3, h4, fun k hS => ?_, D, owns_move h6 (hk mb h3), h7, fun k b hb => ?_⟩
  · have := hk k hS
    rw [Array.getElem?_eq_getElem (h5 k hS)] at this
    exact (Array.getElem?_eq_some_iff.1 this).1
  · obtain ⟨g, c, a1, a2, a3, a4, a5, a6, a7, a8⟩ := h8 k b hb
    exact ⟨g, c, a1, a2, a3, a4, a5, a6, a7, a8.move (hk g a7)⟩
/-- Behind a store of a new row. -/
theorem first_put {W2 W3 : World} {k g c : Nat} {now : List Int} (h : FirstIs cb mb f S W) (hb : Below W.heap.size W W2) {D : DU} (hD : W.ownsMap Try.prog 3 RV mb (Maps.size D) D)
    (hD1 : ∀ kl, Maps.has D kl = true → ∃ k : Nat, k < 2 ^ 60 ∧ kl = .int .i64 (k : Int) ∧ f k ≠ none)
    (hD2 : ∀ k b, f k = some b → ∃ g c, k < 2 ^ 60 ∧ Maps.has D (.int .i64 (k : Int)) = true ∧ (∀ z, D.atKey (.int .i64 (k : Int)) z = hdD g b.length c) ∧ b ≠ [] ∧ b.length ≤ 1000 ∧ b.length ≤ c ∧ S g ∧ RowAt W g b)
    (hk : k < 2 ^ 60) (hne : now ≠ []) (hl : now.length ≤ 1000) (hlc : now.length ≤ c) (hg : W.heap.size ≤ g) (hg2 : g < W2.heap.size) (hC : RowAt W2 g now)
    {m : Nat} (hown : W3.ownsMap Try.prog 3 RV mb m (D.put (.int .i64 (k : Int)) (hdD g now.length c))) (hgrow : W2.grownBy W3 (some mb)) :
    FirstIs cb mb (fun j => if j = k then some now else f j) (fun j => S j ∨ j = g) W3 ∧ Fw S W W3 := by
  have hmb := h.lt mb h.smb
  have hb3 : ∀ j, j < W2.heap.size → j ≠ mb → W3.heap[j]? = W2.heap[j]? := fun j hj hne => hgrow.block j hj (fun e => hne (by cases e; rfl))
  have hS3 : ∀ j, S j → j ≠ mb → W3.heap[j]? = W.heap[j]? := fun j hj hne => by
    have := h.lt j hj
    exact (hb3 j (Nat.lt_of_lt_of_le this hb.size) hne).trans (hb.block j this)
  refine ⟨⟨(hS3 cb h.scb h.ne).trans h.cell, Or.inl h.scb, Or.inl h.smb, h.ne, fun j hj => ?_, _, owns_tight hown, fun kl hkl => ?_, fun j b hj => ?_⟩, ?_⟩
  · have hsz := hgrow.size
    rcases hj with hj | rfl
    · have := h.lt j hj
      have := hb.size
      omega
    · omega
  · by_cases e : kl = .int .i64 (k : Int)
    · exact ⟨k, hk, e, by simp⟩
    · rw [Maps.has_put_other e] at hkl
      obtain ⟨j, hj, rfl, hf⟩ := hD1 kl hkl
      exact ⟨j, hj, rfl, by split <;> simp_all⟩
  · by_cases e : j = k
    · subst e
      simp only [if_true, Option.some.injEq] at hj
      subst hj
      exact ⟨g, c, hk, Maps.has_put_same hD.isMap (isKey64 hk) _, fun z => Maps.atKey_put_same hD.isMap (isKey64 hk) _ z, hne, hl, hlc, Or.inr rfl, hC.move (hb3 g hg2 (by omega))⟩
    · rw [if_neg e] at hj
      obtain ⟨g', c', a1, a2, a3, a4, a5, a6, a7, a8⟩ := hD2 j b hj
      have hkl : (Lit.int .i64 (j : Int)) ≠ .int .i64 (k : Int) := kl_ne e
      refine ⟨g', c', a1, by rw [Maps.has_put_other hkl]; exact a2, fun z => by rw [Maps.atKey_put_other hkl]; exact a3 z, a4, a5, a6, Or.inl a7, a8.move (hS3 g' a7 fun e3 => ?_)⟩
      -- the map's own block is no row
      obtain ⟨cs, e4⟩ := a8.1
      obtain ⟨es, clock, hbm, _⟩ := hD
      rw [e3, hbm] at e4
      cases e4
  · exact ⟨hgrow.os.trans hb.os, hgrow.tape.trans hb.tape, hgrow.output.trans hb.output, Nat.le_trans hb.size hgrow.size, fun j hj hn => (hb3 j (Nat.lt_of_lt_of_le hj hb.size) (fun e => hn (e ▸ h.smb))).trans (hb.block j hj)⟩
end
end Go.Proofs.Ytaegldcifhgnmaa.A

/- A list of ties is a ring: the program's question and the reference's are one (plain). -/
namespace Go.Proofs.Ytaegldcifhgnmaa.A
open Go.RowKit Go.Proofs.YtaegldcifhgnmaaW.PrintWords Go.Proofs.YtaegldcifhgnmaaW.PrintMore

def goodT (l : List S39) : Prop := ∀ t ∈ l, 0 ≤ t.f0 ∧ t.f0 < t.f1 ∧ t.f1 < 60
theorem tiesE_good {n : Int} {l : List S39} (h : tiesE n l = 0) : goodT l := by
  intro t ht
  obtain ⟨i, hi, e⟩ := List.getElem_of_mem ht
  have h1 := tiesE_parts h
  have h2 := okT_parts (okTies_parts h1.2.2 hi).1
  have hg : l.getD i z39 = t := by rw [List.getD_eq_getElem?_getD, List.getElem?_eq_getElem hi, e]; rfl
  rw [hg] at h2
  omega

/-- The tie of an index. -/
def tieA (l : List S39) (i : Int) : S39 := l.getD i.toNat z39
def inR (l : List S39) (i : Int) : Prop := 0 ≤ i ∧ i < (l.length : Int)
instance (l : List S39) (i : Int) : Decidable (inR l i) := inferInstanceAs (Decidable (_ ∧ _))
theorem tieA_good {l : List S39} (hg : goodT l) {i : Int} (h : inR l i) : 0 ≤ (tieA l i).f0 ∧ (tieA l i).f0 < (tieA l i).f1 ∧ (tieA l i).f1 < 60 := hg _ (getD_mem z39 (by unfold inR at h; omega))
/-- The drover that two ties have in common, as the program looks for it. -/
def comB (l : List S39) (i nx : Int) : Option Nat :=
  if inR l i ∧ inR l nx ∧ i ≠ nx then
    (if hasB (tieA l nx) (tieA l i).f0.toNat = true then some (tieA l i).f0.toNat else if hasB (tieA l nx) (tieA l i).f1.toNat = true then some (tieA l i).f1.toNat else none)
  else none
def nextI (r : List Int) (k : Nat) : Int := r.getD ((k + 1) % r.length) 0
def feA (l : List S39) (r : List Int) (k : Nat) : Nat := feT (tieA l (r.getD k 0))
def ringN (l : List S39) (r : List Int) : Nat → Nat → Nat → Nat → Int × Bool
  | 0, _, fe, _ => ((fe : Int), true)
  | d + 1, k, fe, met => match comB l (r.getD k 0) (nextI r k) with
    | none => (0, false)
    | some c => if met.testBit c = true then (0, false) else ringN l r d (k + 1) (fe + feA l r k) (met ||| 2 ^ c)
/-- The program's answer for a list. -/
def ringP (l : List S39) (r : List Int) : Int × Bool := if r.length < 3 then (0, false) else ringN l r r.length 0 0 0
/-- The other drover of a tie. -/
def otherN (t : S39) (v : Nat) : Option Nat := if t.f0 = (v : Int) then some t.f1.toNat else if t.f1 = (v : Int) then some t.f0.toNat else none
def walkN (l : List S39) (r : List Int) (fr : Nat) : Nat → Nat → Nat → Nat → Nat → Int × Bool
  | 0, _, at_, fe, _ => ((fe : Int), decide (at_ = fr))
  | d + 1, k, at_, fe, met => match otherN (tieA l (r.getD k 0)) at_ with
    | none => (0, false)
    | some v => if met.testBit v = true then (0, false) else walkN l r fr d (k + 1) v (fe + feA l r k) (met ||| 2 ^ v)
def walkF (l : List S39) (r : List Int) (fr : Nat) : Int × Bool := walkN l r fr r.length 0 fr 0 0
/-- The reference's answer for a list. -/
def isRingR (l : List S39) (r : List Int) : Int × Bool :=
  if r.length < 3 then (0, false) else if ∀ k, k < r.length → inR l (r.getD k 0) then
    (if (walkF l r (tieA l (r.getD 0 0)).f0.toNat).2 = true then walkF l r (tieA l (r.getD 0 0)).f0.toNat
     else if (walkF l r (tieA l (r.getD 0 0)).f1.toNat).2 = true then walkF l r (tieA l (r.getD 0 0)).f1.toNat else (0, false))
  else (0, false)
def feSum (l : List S39) (r : List Int) : Nat → Nat → Nat
  | 0, _ => 0
  | d + 1, k => feA l r k + feSum l r d (k + 1)

theorem or_bit {met c v : Nat} : (met ||| 2 ^ c).testBit v = (met.testBit v || decide (v = c)) := by
  rw [Nat.testBit_or, tb_two]
  congr 1
theorem ringN_fst (l : List S39) (r : List Int) : ∀ d k fe met, (ringN l r d k fe met).1 = if (ringN l r d k fe met).2 = true then ((fe + feSum l r d k : Nat) : Int) else 0 := by
  intro d
  induction d with
  | zero => intro k fe met; simp [ringN, feSum]
  | succ d ih =>
    intro k fe met
    rw [ringN, feSum]
    cases comB l (r.getD k 0) (nextI r k) with
    | none => simp
    | some c =>
      dsimp only
      by_cases h : met.testBit c = true
      · simp only [if_pos h]; simp
      · simp only [if_neg h]
        rw [ih, Nat.add_assoc]
theorem walkN_fst (l : List S39) (r : List Int) (fr : Nat) : ∀ d k at_ fe met, (walkN l r fr d k at_ fe met).2 = true → (walkN l r fr d k at_ fe met).1 = ((fe + feSum l r d k : Nat) : Int) := by
  intro d
  induction d with
  | zero => intro k at_ fe met h; simp [walkN, feSum]
  | succ d ih =>
    intro k at_ fe met
    rw [walkN, feSum]
    cases otherN (tieA l (r.getD k 0)) at_ with
    | none => simp
    | some c =>
      dsimp only
      by_cases h : met.testBit c = true
      · rw [if_pos h]; simp
      · rw [if_neg h]
        intro h2
        rw [ih _ _ _ _ h2, Nat.add_assoc]

/-! ### lists of drovers -/
theorem ringN_to (l : List S39) (r : List Int) : ∀ d k fe met, (ringN l r d k fe met).2 = true → ∃ c : Nat → Nat, (∀ j, j < d → comB l (r.getD (k + j) 0) (nextI r (k + j)) = some (c j) ∧ met.testBit (c j) = false) ∧ ∀ i j, i < j → j < d → c i ≠ c j := by
  intro d
  induction d with
  | zero => intro k fe met _; exact ⟨fun _ => 0, fun j hj => absurd hj (Nat.not_lt_zero j), fun i j _ hj => absurd hj (Nat.not_lt_zero j)⟩
  | succ d ih =>
    intro k fe met
    rw [ringN]
    cases e : comB l (r.getD k 0) (nextI r k) with
    | none => intro h; simp at h
    | some v =>
      dsimp only
      by_cases h : met.testBit v = true
      · rw [if_pos h]; intro h; simp at h
      · rw [if_neg h]
        intro h2
        obtain ⟨c, h3, h4⟩ := ih _ _ _ h2
        refine ⟨fun j => match j with | 0 => v | j + 1 => c j, fun j hj => ?_, fun i j hij hj => ?_⟩
        · cases j with
          | zero => exact ⟨e, by simpa using h⟩
          | succ j =>
            have := h3 j (by omega)
            rw [or_bit, Bool.or_eq_false_iff] at this
            rw [show k + (j + 1) = k + 1 + j by omega]
            exact ⟨this.1, this.2.1⟩
        · cases j with
          | zero => omega
          | succ j =>
            cases i with
            | zero =>
              have := (h3 j (by omega)).2
              rw [or_bit, Bool.or_eq_false_iff, decide_eq_false_iff_not] at this
              exact fun e => this.2 e.symm
            | succ i => exact h4 i j (by omega) (by omega)
theorem ringN_of (l : List S39) (r : List Int) : ∀ d k fe met (c : Nat → Nat), (∀ j, j < d → comB l (r.getD (k + j) 0) (nextI r (k + j)) = some (c j) ∧ met.testBit (c j) = false) → (∀ i j, i < j → j < d → c i ≠ c j) → (ringN l r d k fe met).2 = true := by
  intro d
  induction d with
  | zero => intros; rfl
  | succ d ih =>
    intro k fe met c h3 h4
    have h0 := h3 0 (by omega)
    rw [Nat.add_zero] at h0
    rw [ringN, h0.1]
    dsimp only
    rw [if_neg (by rw [h0.2]; exact Bool.false_ne_true)]
    refine ih _ _ _ (fun j => c (j + 1)) (fun j hj => ?_) (fun i j hij hj => h4 (i + 1) (j + 1) (by omega) (by omega))
    have := h3 (j + 1) (by omega)
    rw [show k + 1 + j = k + (j + 1) by omega]
    refine ⟨this.1, ?_⟩
    rw [or_bit, this.2, Bool.false_or, decide_eq_false_iff_not]
    exact fun e => h4 0 (j + 1) (by omega) (by omega) e.symm
theorem walkN_to (l : List S39) (r : List Int) (fr : Nat) : ∀ d k at_ fe met, (walkN l r fr d k at_ fe met).2 = true → ∃ c : Nat → Nat, c 0 = at_ ∧ c d = fr ∧ (∀ j, j < d → otherN (tieA l (r.getD (k + j) 0)) (c j) = some (c (j + 1)) ∧ met.testBit (c (j + 1)) = false) ∧ ∀ i j, i < j → j < d → c (i + 1) ≠ c (j + 1) := by
  intro d
  induction d with
  | zero =>
    intro k at_ fe met h
    rw [walkN] at h
    exact ⟨fun _ => at_, rfl, of_decide_eq_true h, fun j hj => absurd hj (Nat.not_lt_zero j), fun i j _ hj => absurd hj (Nat.not_lt_zero j)⟩
  | succ d ih =>
    intro k at_ fe met
    rw [walkN]
    cases e : otherN (tieA l (r.getD k 0)) at_ with
    | none => intro h; simp at h
    | some v =>
      dsimp only
      by_cases h : met.testBit v = true
      · rw [if_pos h]; intro h; simp at h
      · rw [if_neg h]
        intro h2
        obtain ⟨c, h0, hd, h3, h4⟩ := ih _ _ _ _ h2
        refine ⟨fun j => match j with | 0 => at_ | j + 1 => c j, rfl, hd, fun j hj => ?_, fun i j hij hj => ?_⟩
        · cases j with
          | zero =>
            dsimp only
            rw [h0]
            exact ⟨e, by simpa using h⟩
          | succ j =>
            have := h3 j (by omega)
            rw [or_bit, Bool.or_eq_false_iff] at this
            rw [show k + (j + 1) = k + 1 + j by omega]
            exact ⟨this.1, this.2.1⟩
        · cases j with
          | zero => omega
          | succ j =>
            cases i with
            | zero =>
              have := (h3 j (by omega)).2
              rw [or_bit, Bool.or_eq_false_iff, decide_eq_false_iff_not] at this
              dsimp only
              rw [h0]
              exact fun e => this.2 e.symm
            | succ i => exact h4 i j (by omega) (by omega)
theorem walkN_of (l : List S39) (r : List Int) (fr : Nat) : ∀ d k at_ fe met (c : Nat → Nat), c 0 = at_ → c d = fr → (∀ j, j < d → otherN (tieA l (r.getD (k + j) 0)) (c j) = some (c (j + 1)) ∧ met.testBit (c (j + 1)) = false) → (∀ i j, i < j → j < d → c (i + 1) ≠ c (j + 1)) → (walkN l r fr d k at_ fe met).2 = true := by
  intro d
  induction d with
  | zero =>
    intro k at_ fe met c h0 hd _ _
    rw [walkN]
    exact decide_eq_true (h0.symm.trans hd)
  | succ d ih =>
    intro k at_ fe met c h0 hd h3 h4
    have h1 := h3 0 (by omega)
    rw [Nat.add_zero, h0] at h1
    rw [walkN, h1.1]
    dsimp only
    rw [if_neg (by rw [h1.2]; exact Bool.false_ne_true)]
    refine ih _ _ _ _ (fun j => c (j + 1)) rfl hd (fun j hj => ?_) (fun i j hij hj => h4 (i + 1) (j + 1) (by omega) (by omega))
    have := h3 (j + 1) (by omega)
    rw [show k + 1 + j = k + (j + 1) by omega]
    refine ⟨this.1, ?_⟩
    rw [or_bit, this.2, Bool.false_or, decide_eq_false_iff_not]
    exact fun e => h4 0 (j + 1) (by omega) (by omega) e.symm

/-! ### two ties -/
theorem hasB_iff {t : S39} {v : Nat} : hasB t v = true ↔ t.f0 = (v : Int) ∨ t.f1 = (v : Int) := by
  unfold hasB
  rw [Bool.or_eq_true, beq_iff_eq, beq_iff_eq]
theorem other_has {t : S39} {a b : Nat} (h1 : t.f0 < t.f1) (ha : hasB t a = true) (hb : hasB t b = true) (hne : a ≠ b) : otherN t a = some b := by
  rw [hasB_iff] at ha hb
  unfold otherN
  by_cases h : t.f0 = (a : Int)
  · rw [if_pos h]
    have : t.f1.toNat = b := by omega
    rw [this]
  · rw [if_neg h, if_pos (by omega)]
    have : t.f0.toNat = b := by omega
    rw [this]
theorem other_parts {t : S39} {a b : Nat} (h0 : 0 ≤ t.f0) (h1 : t.f0 < t.f1) (h : otherN t a = some b) : hasB t a = true ∧ hasB t b = true ∧ a ≠ b := by
  rw [hasB_iff, hasB_iff]
  unfold otherN at h
  by_cases e : t.f0 = (a : Int)
  · rw [if_pos e] at h
    have := Option.some.inj h
    omega
  · rw [if_neg e] at h
    by_cases e1 : t.f1 = (a : Int)
    · rw [if_pos e1] at h
      have := Option.some.inj h
      omega
    · rw [if_neg e1] at h; exact absurd h (by simp)
theorem com_parts {l : List S39} (hg : goodT l) {i nx : Int} {c : Nat} (h : comB l i nx = some c) : inR l i ∧ inR l nx ∧ hasB (tieA l i) c = true ∧ hasB (tieA l nx) c = true := by
  unfold comB at h
  by_cases h1 : inR l i ∧ inR l nx ∧ i ≠ nx
  · rw [if_pos h1] at h
    have hi := tieA_good hg h1.1
    refine ⟨h1.1, h1.2.1, ?_⟩
    by_cases h2 : hasB (tieA l nx) (tieA l i).f0.toNat = true
    · rw [if_pos h2] at h
      obtain rfl := Option.some.inj h
      exact ⟨hasB_iff.mpr (Or.inl (by omega)), h2⟩
    · rw [if_neg h2] at h
      by_cases h3 : hasB (tieA l nx) (tieA l i).f1.toNat = true
      · rw [if_pos h3] at h
        obtain rfl := Option.some.inj h
        exact ⟨hasB_iff.mpr (Or.inr (by omega)), h3⟩
      · rw [if_neg h3] at h; exact absurd h (by simp)
  · rw [if_neg h1] at h; exact absurd h (by simp)
theorem com_of {l : List S39} (hg : goodT l) {i nx : Int} (hi : inR l i) (hn : inR l nx) {a b x : Nat} (h : otherN (tieA l i) a = some b) (h' : otherN (tieA l nx) b = some x) (hne : x ≠ a) : comB l i nx = some b := by
  have gi := tieA_good hg hi
  have gn := tieA_good hg hn
  have p := other_parts gi.1 gi.2.1 h
  have q := other_parts gn.1 gn.2.1 h'
  rw [hasB_iff, hasB_iff] at p q
  have hin : i ≠ nx := by
    intro e
    subst e
    omega
  unfold comB
  rw [if_pos ⟨hi, hn, hin⟩]
  by_cases e : (tieA l i).f0.toNat = b
  · rw [e, if_pos (hasB_iff.mpr q.1)]
  · rw [if_neg (by rw [hasB_iff]; omega)]
    have e1 : (tieA l i).f1.toNat = b := by omega
    rw [e1, if_pos (hasB_iff.mpr q.1)]

/-! ### the two are one -/
theorem mod_in {k m : Nat} (h : k + 1 < m) : (k + 1) % m = k + 1 := Nat.mod_eq_of_lt h
theorem ring_of_walk {l : List S39} (hg : goodT l) {r : List Int} (h3 : 3 ≤ r.length) (hin : ∀ k, k < r.length → inR l (r.getD k 0)) {fr : Nat} (h : (walkF l r fr).2 = true) : (ringN l r r.length 0 0 0).2 = true := by
  obtain ⟨c, h0, hd, hs, hd2⟩ := walkN_to l r fr _ _ _ _ _ h
  refine ringN_of l r _ _ _ _ (fun j => c (j + 1)) (fun j hj => ⟨?_, Nat.zero_testBit _⟩) hd2
  rw [Nat.zero_add]
  have a1 := (hs j hj).1
  rw [Nat.zero_add] at a1
  by_cases hl : j + 1 < r.length
  · have a2 := (hs (j + 1) hl).1
    rw [Nat.zero_add] at a2
    unfold nextI
    rw [mod_in hl]
    refine com_of hg (hin j hj) (hin _ hl) a1 a2 ?_
    cases j with
    | zero =>
      rw [h0, ← hd]
      have := hd2 1 (r.length - 1) (by omega) (by omega)
      rwa [Nat.sub_add_cancel (by omega)] at this
    | succ j => exact fun e => hd2 j (j + 2) (by omega) (by omega) e.symm
  · have e : j + 1 = r.length := by omega
    have a2 := (hs 0 (by omega)).1
    rw [Nat.zero_add, h0, ← hd, ← e] at a2
    unfold nextI
    rw [e, Nat.mod_self]
    rw [← e]
    refine com_of hg (hin j hj) (hin 0 (by omega)) a1 a2 ?_
    obtain ⟨q, rfl⟩ : ∃ q, j = q + 1 := ⟨j - 1, by omega⟩
    exact hd2 0 q (by omega) (by omega)
theorem walk_of_ring {l : List S39} (hg : goodT l) {r : List Int} (h3 : 3 ≤ r.length) (h : (ringN l r r.length 0 0 0).2 = true) : (∀ k, k < r.length → inR l (r.getD k 0)) ∧ ∃ fr, (fr = (tieA l (r.getD 0 0)).f0.toNat ∨ fr = (tieA l (r.getD 0 0)).f1.toNat) ∧ (walkF l r fr).2 = true := by
  obtain ⟨c, hs, hd⟩ := ringN_to l r _ _ _ _ h
  have hc : ∀ k, k < r.length → inR l (r.getD k 0) ∧ inR l (nextI r k) ∧ hasB (tieA l (r.getD k 0)) (c k) = true ∧ hasB (tieA l (nextI r k)) (c k) = true := by
    intro k hk
    have := (hs k hk).1
    rw [Nat.zero_add] at this
    exact com_parts hg this
  have hin : ∀ k, k < r.length → inR l (r.getD k 0) := fun k hk => (hc k hk).1
  have e : r.length - 1 + 1 = r.length := Nat.sub_add_cancel (by omega)
  have hlast := hc (r.length - 1) (by omega)
  have hn0 : nextI r (r.length - 1) = r.getD 0 0 := by
    unfold nextI
    rw [e, Nat.mod_self]
  rw [hn0] at hlast
  have h00 := tieA_good hg (hin 0 (by omega))
  refine ⟨hin, c (r.length - 1), ?_, ?_⟩
  · have := hasB_iff.mp hlast.2.2.2
    omega
  · refine walkN_of l r _ _ _ _ _ _ (fun j => match j with | 0 => c (r.length - 1) | j + 1 => c j) rfl ?_ (fun j hj => ⟨?_, Nat.zero_testBit _⟩) hd
    · obtain ⟨q, hq⟩ : ∃ q, r.length = q + 1 := ⟨r.length - 1, by omega⟩
      rw [hq]; rfl
    · rw [Nat.zero_add]
      cases j with
      | zero => exact other_has h00.2.1 hlast.2.2.2 (hc 0 hj).2.2.1 (fun e => hd 0 (r.length - 1) (by omega) (by omega) e.symm)
      | succ j =>
        have hj' := hc j (by omega)
        have hn : nextI r j = r.getD (j + 1) 0 := by unfold nextI; rw [mod_in hj]
        rw [hn] at hj'
        exact other_has (tieA_good hg (hin _ hj)).2.1 hj'.2.2.2 (hc _ hj).2.2.1 (hd j (j + 1) (by omega) hj)
theorem ringP_eq {l : List S39} (hg : goodT l) (r : List Int) : ringP l r = isRingR l r := by
  unfold ringP isRingR
  by_cases h3 : r.length < 3
  · rw [if_pos h3, if_pos h3]
  · rw [if_neg h3, if_neg h3]
    have f0 := ringN_fst l r r.length 0 0 0
    have h3' : 3 ≤ r.length := by omega
    by_cases h : (ringN l r r.length 0 0 0).2 = true
    · obtain ⟨hin, fr, hfr, hw⟩ := walk_of_ring hg h3' h
      rw [if_pos h] at f0
      have e1 : ringN l r r.length 0 0 0 = (((0 + feSum l r r.length 0 : Nat) : Int), true) := Prod.ext f0 h
      have e2 : ∀ v, (walkF l r v).2 = true → walkF l r v = (((0 + feSum l r r.length 0 : Nat) : Int), true) := fun v hv => Prod.ext (walkN_fst l r v _ _ _ _ _ hv) hv
      rw [if_pos hin, e1]
      by_cases ha : (walkF l r (tieA l (r.getD 0 0)).f0.toNat).2 = true
      · rw [if_pos ha, e2 _ ha]
      · rw [if_neg ha]
        have hb : (walkF l r (tieA l (r.getD 0 0)).f1.toNat).2 = true := by
          rcases hfr with e | e
          · rw [e] at hw; exact absurd hw ha
          · rw [← e]; exact hw
        rw [if_pos hb, e2 _ hb]
    · rw [if_neg h] at f0
      have e1 : ringN l r r.length 0 0 0 = (0, false) := Prod.ext f0 (by simpa using h)
      rw [e1]
      by_cases hin : ∀ k, k < r.length → inR l (r.getD k 0)
      · rw [if_pos hin, if_neg (fun ha => h (ring_of_walk hg h3' hin ha)), if_neg (fun ha => h (ring_of_walk hg h3' hin ha))]
      · rw [if_neg hin]
end Go.Proofs.Ytaegldcifhgnmaa.A

/- The specification's searches for rings (plain). -/
namespace Go.Proofs.Ytaegldcifhgnmaa.B
open Go.Proofs.Ytaegldcifhgnmaa.A
open Go.RowKit Go.Proofs.YtaegldcifhgnmaaW.PrintWords Go.Proofs.YtaegldcifhgnmaaW.PrintMore
def lessB (a b : List Int) : Bool := decide (cmpL a b < 0)
/-- What is asked for of a ring's feuds. -/
def askB (one : Bool) (fe : Int) : Bool := if one = true then fe == 1 else Int.tmod fe 2 == 1
def ringedR (l : List S39) (one : Bool) : Nat → List Int → Nat → Nat → Option (List Int)
  | 0, now, _, _ => if ((isRingR l now).2 && askB one (isRingR l now).1) = true then some now else none
  | d + 1, now, at_, met => firstN (fun i => match otherN (l.getD i z39) at_ with
    | none => none
    | some v => if met.testBit v = true then none else ringedR l one d (now ++ [(i : Int)]) v (met ||| 2 ^ v)) l.length
def startR (l : List S39) (one : Bool) (size i fr : Nat) : Option (List Int) := ringedR l one (size - 1) [(i : Int)] fr (2 ^ fr)
def pickR (a b : Option (List Int)) : Option (List Int) := match a with
  | none => b
  | some x => match b with
    | none => some x
    | some y => if lessB x y = true then some x else some y
def pairR (l : List S39) (one : Bool) (size i : Nat) : Option (List Int) := pickR (startR l one size i (l.getD i z39).f0.toNat) (startR l one size i (l.getD i z39).f1.toNat)
def sizeR (l : List S39) (one : Bool) (size : Nat) : Option (List Int) := if 3 ≤ size then firstN (pairR l one size) l.length else none
def shortR (l : List S39) (one : Bool) (n : Nat) : Option (List Int) := firstN (sizeR l one) (n + 1)
theorem ringedR_len (l : List S39) (one : Bool) : ∀ d now at_ met x, ringedR l one d now at_ met = some x → x.length = now.length + d := by
  intro d
  induction d with
  | zero =>
    intro now at_ met x h
    rw [ringedR] at h
    split at h
    · cases h; rfl
    · cases h
  | succ d ih =>
    intro now at_ met x h
    rw [ringedR] at h
    have key : ∀ (F : Nat → Option (List Int)), (∀ i x, F i = some x → x.length = now.length + (d + 1)) → ∀ k x, firstN F k = some x → x.length = now.length + (d + 1) := by
      intro F hF k
      induction k with
      | zero => intro x h; cases h
      | succ k ihk =>
        intro x h
        rw [firstN] at h
        cases e : firstN F k with
        | some y =>
          rw [e] at h
          have := Option.some.inj h
          subst this
          exact ihk _ e
        | none => rw [e] at h; exact hF k x h
    refine key _ (fun i x hx => ?_) _ _ h
    cases e : otherN (l.getD i z39) at_ with
    | none => rw [e] at hx; cases hx
    | some v =>
      rw [e] at hx
      dsimp only at hx
      split at hx
      · cases hx
      · have := ih _ _ _ _ hx
        rw [List.length_append, List.length_singleton] at this
        omega
end Go.Proofs.Ytaegldcifhgnmaa.B

/- The program's best list and the specification's shortest ring are one (plain). -/
namespace Go.Proofs.Ytaegldcifhgnmaa.B
open Go.Proofs.Ytaegldcifhgnmaa.A
open Go.RowKit Go.Proofs.YtaegldcifhgnmaaW.PrintWords Go.Proofs.YtaegldcifhgnmaaW.PrintMore

/-! ### the order of lists -/
theorem cmpI_self (a : Int) : cmpI a a = 0 := by unfold cmpI; rw [if_neg (by omega), if_neg (by omega)]
theorem cmpL_self : ∀ a : List Int, cmpL a a = 0
  | [] => rfl
  | a :: at_ => by rw [cmpL, cmpI_self, if_pos rfl, cmpL_self at_]
theorem cmpI_swap (a b : Int) : cmpI b a = - cmpI a b := by
  unfold cmpI
  by_cases h1 : a < b <;> by_cases h2 : b < a <;> simp [h1, h2] <;> omega
theorem cmpI_zero {a b : Int} (h : cmpI a b = 0) : a = b := by
  unfold cmpI at h
  split at h
  · omega
  · split at h <;> omega
theorem cmpL_swap : ∀ a b : List Int, cmpL b a = - cmpL a b
  | [], [] => rfl
  | [], _ :: _ => rfl
  | _ :: _, [] => rfl
  | a :: at_, b :: bs => by
    rw [cmpL, cmpL, cmpI_swap a b, cmpL_swap at_ bs]
    by_cases h : cmpI a b = 0
    · rw [if_pos h, if_pos (by omega)]
    · rw [if_neg h, if_neg (by omega)]
theorem cmpL_eq : ∀ a b : List Int, cmpL a b = 0 → a = b
  | [], [] => fun _ => rfl
  | [], _ :: _ => fun h => by simp [cmpL] at h
  | _ :: _, [] => fun h => by simp [cmpL] at h
  | a :: at_, b :: bs => fun h => by
    rw [cmpL] at h
    by_cases h0 : cmpI a b = 0
    · rw [if_pos h0] at h
      rw [cmpI_zero h0, cmpL_eq at_ bs h]
    · rw [if_neg h0] at h; exact absurd h h0
theorem cmpL_trans : ∀ a b c : List Int, cmpL a b ≤ 0 → cmpL b c ≤ 0 → cmpL a c ≤ 0
  | [], _, [] => fun _ _ => by simp [cmpL]
  | [], _, _ :: _ => fun _ _ => by simp [cmpL]
  | a :: at_, [], _ => fun h _ => by simp [cmpL] at h
  | a :: at_, b :: bs, [] => fun _ h => by simp [cmpL] at h
  | a :: at_, b :: bs, c :: cs => fun h1 h2 => by
    rw [cmpL] at h1 h2 ⊢
    have ih := cmpL_trans at_ bs cs
    unfold cmpI at h1 h2 ⊢
    by_cases x1 : a < b <;> by_cases x2 : b < a <;> by_cases y1 : b < c <;> by_cases y2 : c < b <;> by_cases z1 : a < c <;> by_cases z2 : c < a <;> simp [x1, x2, y1, y2, z1, z2] at h1 h2 ⊢ <;> first | omega | exact ih h1 h2
theorem cmpL_pre : ∀ (p a b : List Int), cmpL (p ++ a) (p ++ b) = cmpL a b
  | [], _, _ => rfl
  | p :: ps, a, b => by rw [List.cons_append, List.cons_append, cmpL, cmpI_self, if_pos rfl, cmpL_pre ps]
theorem cmpL_lt {i j : Int} (h : i < j) (a b : List Int) : cmpL (i :: a) (j :: b) ≤ 0 := by
  rw [cmpL]
  unfold cmpI
  rw [if_pos h, if_neg (by decide)]
  decide

/-! ### the least -/
def IsLeast (P : List Int → Prop) (S : Option (List Int)) : Prop := match S with
  | none => ∀ x, ¬ P x
  | some b => P b ∧ ∀ x, P x → cmpL b x ≤ 0
theorem least_one {P Q : List Int → Prop} {S T : Option (List Int)} (hs : IsLeast P S) (ht : IsLeast Q T) (h : ∀ x, P x ↔ Q x) : S = T := by
  cases S with
  | none =>
    cases T with
    | none => rfl
    | some b => exact absurd ((h b).mpr ht.1) (hs b)
  | some a =>
    cases T with
    | none => exact absurd ((h a).mp hs.1) (ht a)
    | some b =>
      have h1 := hs.2 b ((h b).mpr ht.1)
      have h2 := ht.2 a ((h a).mp hs.1)
      have := cmpL_swap a b
      rw [cmpL_eq a b (by omega)]
theorem least_iff {P Q : List Int → Prop} {S : Option (List Int)} (hs : IsLeast P S) (h : ∀ x, P x ↔ Q x) : IsLeast Q S := by
  cases S with
  | none => exact fun x hx => hs x ((h x).mpr hx)
  | some a => exact ⟨(h a).mp hs.1, fun x hx => hs.2 x ((h x).mpr hx)⟩
theorem least_pick {P Q : List Int → Prop} {S T : Option (List Int)} (hs : IsLeast P S) (ht : IsLeast Q T) : IsLeast (fun x => P x ∨ Q x) (pickR S T) := by
  cases S with
  | none =>
    exact least_iff ht fun x => ⟨Or.inr, fun h => h.elim (fun h => absurd h (hs x)) id⟩
  | some a =>
    cases T with
    | none => exact least_iff hs fun x => ⟨Or.inl, fun h => h.elim id (fun h => absurd h (ht x))⟩
    | some b =>
      unfold pickR
      dsimp only
      by_cases h : lessB a b = true
      · rw [if_pos h]
        have hl : cmpL a b < 0 := of_decide_eq_true h
        exact ⟨Or.inl hs.1, fun x hx => hx.elim (hs.2 x) fun hx => cmpL_trans a b x (by omega) (ht.2 x hx)⟩
      · rw [if_neg h]
        have hl : ¬ cmpL a b < 0 := fun e => h (decide_eq_true e)
        have := cmpL_swap a b
        exact ⟨Or.inr ht.1, fun x hx => hx.elim (fun hx => cmpL_trans b a x (by omega) (hs.2 x hx)) (ht.2 x)⟩
theorem least_first {P : Nat → List Int → Prop} {F : Nat → Option (List Int)} (hF : ∀ i, IsLeast (P i) (F i)) (ho : ∀ i j x y, i < j → P i x → P j y → cmpL x y ≤ 0) : ∀ m, IsLeast (fun x => ∃ i, i < m ∧ P i x) (firstN F m) := by
  intro m
  induction m with
  | zero => exact fun x ⟨i, hi, _⟩ => absurd hi (Nat.not_lt_zero i)
  | succ m ih =>
    rw [firstN]
    cases e : firstN F m with
    | some b =>
      rw [e] at ih
      obtain ⟨i, hi, hp⟩ := ih.1
      refine ⟨⟨i, by omega, hp⟩, fun x ⟨j, hj, hx⟩ => ?_⟩
      by_cases hjm : j < m
      · exact ih.2 x ⟨j, hjm, hx⟩
      · exact ho i j b x (by omega) hp hx
    | none =>
      rw [e] at ih
      refine least_iff (hF m) fun x => ⟨fun h => ⟨m, by omega, h⟩, fun ⟨j, hj, hx⟩ => ?_⟩
      by_cases hjm : j < m
      · exact absurd ⟨j, hjm, hx⟩ (ih x)
      · obtain rfl : j = m := by omega
        exact hx

/-! ### walks -/
def WT (l : List S39) (fr : Nat) : Nat → Nat → List Int → Prop
  | at_, _, [] => at_ = fr
  | at_, met, j :: js => inR l j ∧ ∃ v, otherN (tieA l j) at_ = some v ∧ met.testBit v = false ∧ WT l fr v (met ||| 2 ^ v) js
def PT (l : List S39) (fr : Nat) : Nat → Nat → List Int → Prop
  | at_, _, [] => at_ = fr
  | at_, met, j :: js => inR l j ∧ ∃ v, otherN (tieA l j) at_ = some v ∧ (if js = [] then v = fr else met.testBit v = false) ∧ PT l fr v (met ||| 2 ^ v) js
def DT (l : List S39) : Nat → Nat → List Int → Prop
  | _, _, [] => True
  | at_, met, j :: js => inR l j ∧ ∃ v, otherN (tieA l j) at_ = some v ∧ met.testBit v = false ∧ DT l v (met ||| 2 ^ v) js
def feL (l : List S39) : List Int → Nat
  | [] => 0
  | j :: js => feT (tieA l j) + feL l js
section
variable {l : List S39}
theorem WT_DT {fr : Nat} : ∀ (js : List Int) (at_ met : Nat), WT l fr at_ met js → DT l at_ met js
  | [], _, _, _ => trivial
  | _ :: js, _, _, ⟨h, v, h1, h2, h3⟩ => ⟨h, v, h1, h2, WT_DT js _ _ h3⟩
theorem WT_in {fr : Nat} : ∀ (js : List Int) (at_ met : Nat), WT l fr at_ met js → ∀ j ∈ js, inR l j
  | [], _, _, _ => fun _ hj => absurd hj (by simp)
  | j :: js, _, _, ⟨h, v, _, _, h3⟩ => fun i hi => by
    rcases List.mem_cons.mp hi with e | e
    · rw [e]; exact h
    · exact WT_in js _ _ h3 i e
theorem WT_met {fr : Nat} : ∀ (js : List Int) (at_ met : Nat), met.testBit fr = true → js ≠ [] → ¬ WT l fr at_ met js
  | [], _, _, _, h => fun _ => h rfl
  | j :: js, _, met, hm, _ => fun ⟨_, v, _, h2, h3⟩ => by
    by_cases e : js = []
    · subst e
      rw [WT] at h3
      subst h3
      rw [hm] at h2; cases h2
    · exact WT_met js v (met ||| 2 ^ v) (by rw [or_bit, hm, Bool.true_or]) e h3
theorem WT_PT {fr : Nat} : ∀ (js : List Int) (at_ met : Nat), met.testBit fr = false → (WT l fr at_ met js ↔ PT l fr at_ (met ||| 2 ^ fr) js)
  | [], _, _, _ => Iff.rfl
  | j :: js, at_, met, hm => by
    rw [WT, PT]
    refine and_congr Iff.rfl (exists_congr fun v => and_congr Iff.rfl ?_)
    by_cases e : js = []
    · subst e
      rw [if_pos rfl, WT, PT]
      exact ⟨fun h => ⟨h.2, h.2⟩, fun h => ⟨by rw [h.1]; exact hm, h.2⟩⟩
    · rw [if_neg e]
      have hc : (met ||| 2 ^ fr) ||| 2 ^ v = (met ||| 2 ^ v) ||| 2 ^ fr := by rw [Nat.or_assoc, Nat.or_comm (2 ^ fr), Nat.or_assoc]
      rw [hc, or_bit, Bool.or_eq_false_iff, decide_eq_false_iff_not]
      constructor
      · rintro ⟨h2, h3⟩
        have hv : v ≠ fr := fun ev => WT_met js v (met ||| 2 ^ v) (by rw [or_bit, ev]; simp) e h3
        refine ⟨⟨h2, hv⟩, (WT_PT js v (met ||| 2 ^ v) ?_).mp h3⟩
        rw [or_bit, hm, Bool.false_or, decide_eq_false_iff_not]
        exact fun e => hv e.symm
      · rintro ⟨⟨h2, hv⟩, h3⟩
        refine ⟨h2, (WT_PT js v (met ||| 2 ^ v) ?_).mpr h3⟩
        rw [or_bit, hm, Bool.false_or, decide_eq_false_iff_not]
        exact fun e => hv e.symm
end
end Go.Proofs.Ytaegldcifhgnmaa.B

/- The program's best list and the specification's shortest ring are one: the two searches (plain). -/
namespace Go.Proofs.Ytaegldcifhgnmaa.B
open Go.Proofs.Ytaegldcifhgnmaa.A
open Go.RowKit Go.Proofs.YtaegldcifhgnmaaW.PrintWords Go.Proofs.YtaegldcifhgnmaaW.PrintMore
section
variable {l : List S39}
theorem drop_cons {r : List Int} {k : Nat} (h : k < r.length) : r.drop k = r.getD k 0 :: r.drop (k + 1) := by
  rw [List.drop_eq_getElem_cons h]
  congr 1
  rw [List.getD_eq_getElem?_getD, List.getElem?_eq_getElem h]; rfl
theorem feSum_drop (r : List Int) : ∀ d k, r.length - k = d → k ≤ r.length → feSum l r d k = feL l (r.drop k)
  | 0, k, hd, hk => by
    rw [List.drop_eq_nil_of_le (by omega)]; rfl
  | d + 1, k, hd, hk => by
    rw [drop_cons (by omega), feSum, feL, feSum_drop r d (k + 1) (by omega) (by omega)]; rfl
theorem walkN_WT (r : List Int) (fr : Nat) (hin : ∀ k, k < r.length → inR l (r.getD k 0)) : ∀ d k at_ fe met, r.length - k = d → k ≤ r.length → ((walkN l r fr d k at_ fe met).2 = true ↔ WT l fr at_ met (r.drop k))
  | 0, k, at_, fe, met, hd, hk => by
    rw [List.drop_eq_nil_of_le (by omega), walkN, WT]
    exact decide_eq_true_iff
  | d + 1, k, at_, fe, met, hd, hk => by
    rw [drop_cons (by omega), walkN, WT]
    cases e : otherN (tieA l (r.getD k 0)) at_ with
    | none =>
      dsimp only
      exact ⟨fun h => absurd h Bool.false_ne_true, fun ⟨_, v, h, _⟩ => by cases h⟩
    | some v =>
      dsimp only
      by_cases hb : met.testBit v = true
      · rw [if_pos hb]
        refine ⟨fun h => absurd h Bool.false_ne_true, fun ⟨_, u, h, h2, _⟩ => ?_⟩
        cases h
        rw [hb] at h2; cases h2
      · rw [if_neg hb]
        have ih := walkN_WT r fr hin d (k + 1) v (fe + feA l r k) (met ||| 2 ^ v) (by omega) (by omega)
        rw [ih]
        refine ⟨fun h => ⟨hin k (by omega), v, rfl, by simpa using hb, h⟩, fun ⟨_, u, h, h2, h3⟩ => ?_⟩
        cases h
        exact h3
/-- A ring, one way or the other. -/
def Ringy (l : List S39) (x : List Int) : Prop := ∃ fr : Nat, (fr = (tieA l (x.getD 0 0)).f0.toNat ∨ fr = (tieA l (x.getD 0 0)).f1.toNat) ∧ WT l fr fr 0 x
theorem isRing_iff {x : List Int} (h3 : 3 ≤ x.length) : (isRingR l x).2 = true ↔ Ringy l x := by
  unfold isRingR
  rw [if_neg (by omega)]
  by_cases hin : ∀ k, k < x.length → inR l (x.getD k 0)
  · rw [if_pos hin]
    have w : ∀ fr, (walkF l x fr).2 = true ↔ WT l fr fr 0 x := fun fr => by
      have := walkN_WT x fr hin x.length 0 fr 0 0 (by omega) (Nat.zero_le _)
      rwa [List.drop_zero] at this
    by_cases ha : (walkF l x (tieA l (x.getD 0 0)).f0.toNat).2 = true
    · rw [if_pos ha]
      exact ⟨fun h => ⟨_, Or.inl rfl, (w _).mp h⟩, fun _ => ha⟩
    · rw [if_neg ha]
      by_cases hb : (walkF l x (tieA l (x.getD 0 0)).f1.toNat).2 = true
      · rw [if_pos hb]
        exact ⟨fun h => ⟨_, Or.inr rfl, (w _).mp h⟩, fun _ => hb⟩
      · rw [if_neg hb]
        refine ⟨fun h => absurd h Bool.false_ne_true, fun ⟨fr, hf, hw⟩ => ?_⟩
        rcases hf with e | e
        · rw [e, ← w] at hw; exact absurd hw ha
        · rw [e, ← w] at hw; exact absurd hw hb
  · rw [if_neg hin]
    refine ⟨fun h => absurd h Bool.false_ne_true, fun ⟨fr, _, hw⟩ => ?_⟩
    exact absurd (fun k hk => WT_in x _ _ hw _ (getD_mem 0 hk)) hin
theorem isRing_fe {x : List Int} (h3 : 3 ≤ x.length) (h : (isRingR l x).2 = true) : (isRingR l x).1 = (feL l x : Int) := by
  have w : ∀ fr, (walkF l x fr).2 = true → (walkF l x fr).1 = (feL l x : Int) := fun fr hf => by
    have := walkN_fst l x fr x.length 0 fr 0 0 hf
    rw [Nat.zero_add, feSum_drop x x.length 0 (by omega) (Nat.zero_le _), List.drop_zero] at this
    exact this
  unfold isRingR at h ⊢
  rw [if_neg (by omega)] at h ⊢
  by_cases hin : ∀ k, k < x.length → inR l (x.getD k 0)
  · rw [if_pos hin] at h ⊢
    by_cases ha : (walkF l x (tieA l (x.getD 0 0)).f0.toNat).2 = true
    · rw [if_pos ha]; exact w _ ha
    · rw [if_neg ha] at h ⊢
      by_cases hb : (walkF l x (tieA l (x.getD 0 0)).f1.toNat).2 = true
      · rw [if_pos hb]; exact w _ hb
      · rw [if_neg hb] at h; exact absurd h Bool.false_ne_true
  · rw [if_neg hin] at h; exact absurd h Bool.false_ne_true

/-! ### the specification -/
def okX (l : List S39) (one : Bool) (x : List Int) : Prop := ((isRingR l x).2 && askB one (isRingR l x).1) = true
theorem rg_least (one : Bool) : ∀ d now at_ met, IsLeast (fun x => ∃ js, x = now ++ js ∧ js.length = d ∧ DT l at_ met js ∧ okX l one x) (ringedR l one d now at_ met)
  | 0, now, at_, met => by
    rw [ringedR]
    by_cases h : ((isRingR l now).2 && askB one (isRingR l now).1) = true
    · rw [if_pos h]
      refine ⟨⟨[], by simp, rfl, trivial, h⟩, fun x ⟨js, e, hl, _, _⟩ => ?_⟩
      obtain rfl := List.eq_nil_of_length_eq_zero hl
      rw [e, List.append_nil, cmpL_self]; decide
    · rw [if_neg h]
      rintro x ⟨js, e, hl, _, hx⟩
      obtain rfl := List.eq_nil_of_length_eq_zero hl
      rw [e, List.append_nil] at hx
      exact h hx
  | d + 1, now, at_, met => by
    rw [ringedR]
    have key := least_first (P := fun i x => i < l.length ∧ ∃ v js, x = (now ++ [(i : Int)]) ++ js ∧ js.length = d ∧ otherN (l.getD i z39) at_ = some v ∧ met.testBit v = false ∧ DT l v (met ||| 2 ^ v) js ∧ okX l one x)
      (F := fun i => if i < l.length then (match otherN (l.getD i z39) at_ with
        | none => none
        | some v => if met.testBit v = true then none else ringedR l one d (now ++ [(i : Int)]) v (met ||| 2 ^ v)) else none) (fun i => by
        by_cases hi : i < l.length
        · rw [if_pos hi]
          cases e : otherN (l.getD i z39) at_ with
          | none => rintro x ⟨_, v, js, _, _, h, _⟩; cases h
          | some v =>
            dsimp only
            by_cases hb : met.testBit v = true
            · rw [if_pos hb]
              rintro x ⟨_, u, js, _, _, h, h2, _⟩
              cases h
              rw [hb] at h2; cases h2
            · rw [if_neg hb]
              refine least_iff (rg_least one d (now ++ [(i : Int)]) v (met ||| 2 ^ v)) fun x => ⟨fun ⟨js, h1, h2, h3, h4⟩ => ⟨hi, v, js, h1, h2, rfl, by simpa using hb, h3, h4⟩, fun ⟨_, u, js, h1, h2, h, h5, h3, h4⟩ => ?_⟩
              cases h
              exact ⟨js, h1, h2, h3, h4⟩
        · rw [if_neg hi]
          exact fun x h => hi h.1) (fun i j x y hij ⟨_, v, js, h1, _⟩ ⟨_, u, js', h2, _⟩ => by
        rw [h1, h2, List.append_assoc, List.append_assoc, cmpL_pre]
        exact cmpL_lt (by omega) _ _) l.length
    have hsame : firstN (fun i => if i < l.length then (match otherN (l.getD i z39) at_ with
        | none => none
        | some v => if met.testBit v = true then none else ringedR l one d (now ++ [(i : Int)]) v (met ||| 2 ^ v)) else none) l.length = firstN (fun i => match otherN (l.getD i z39) at_ with
        | none => none
        | some v => if met.testBit v = true then none else ringedR l one d (now ++ [(i : Int)]) v (met ||| 2 ^ v)) l.length := by
      have gen : ∀ (F : Nat → Option (List Int)) m, m ≤ l.length → firstN (fun i => if i < l.length then F i else none) m = firstN F m := by
        intro F m
        induction m with
        | zero => intro _; rfl
        | succ m ih => intro hm; rw [firstN, firstN, ih (by omega), if_pos (by omega)]
      exact gen _ _ (Nat.le_refl _)
    rw [hsame] at key
    refine least_iff key fun x => ⟨?_, ?_⟩
    · rintro ⟨i, hi, _, v, js, h1, h2, h3, h4, h5, h6⟩
      refine ⟨(i : Int) :: js, by rw [h1, List.append_assoc]; rfl, by simp [h2], ⟨⟨by omega, by omega⟩, v, ?_, h4, h5⟩, h6⟩
      unfold tieA
      rw [Int.toNat_natCast]; exact h3
    · rintro ⟨js, h1, h2, h3, h4⟩
      cases js with
      | nil => simp at h2
      | cons j js =>
        obtain ⟨hj, v, h5, h6, h7⟩ := h3
        obtain ⟨i, rfl⟩ := Int.eq_ofNat_of_zero_le hj.1
        have hi : i < l.length := by have := hj.2; omega
        unfold tieA at h5
        rw [Int.toNat_natCast] at h5
        exact ⟨i, hi, hi, v, js, by rw [h1, List.append_assoc]; rfl, by simpa using h2, h5, h6, h7, h4⟩
/-- The rings of a size that are asked for. -/
def RingP (l : List S39) (one : Bool) (k : Nat) (x : List Int) : Prop := x.length = k ∧ Ringy l x ∧ askB one (feL l x) = true
theorem okX_iff {one : Bool} {x : List Int} (h3 : 3 ≤ x.length) : okX l one x ↔ Ringy l x ∧ askB one (feL l x) = true := by
  unfold okX
  rw [Bool.and_eq_true, isRing_iff h3]
  refine and_congr_right fun h => ?_
  rw [isRing_fe h3 ((isRing_iff h3).mpr h)]
theorem sizeR_least (hg : goodT l) (one : Bool) {k : Nat} (h3 : 3 ≤ k) : IsLeast (RingP l one k) (sizeR l one k) := by
  unfold sizeR
  rw [if_pos h3]
  have hst : ∀ i fr : Nat, IsLeast (fun x => ∃ js, x = [(i : Int)] ++ js ∧ js.length = k - 1 ∧ DT l fr (2 ^ fr) js ∧ okX l one x) (startR l one k i fr) := fun i fr => rg_least one (k - 1) [(i : Int)] fr (2 ^ fr)
  have hpair : ∀ i : Nat, IsLeast (fun x => (∃ js, x = [(i : Int)] ++ js ∧ js.length = k - 1 ∧ DT l (l.getD i z39).f0.toNat (2 ^ (l.getD i z39).f0.toNat) js ∧ okX l one x) ∨ ∃ js, x = [(i : Int)] ++ js ∧ js.length = k - 1 ∧ DT l (l.getD i z39).f1.toNat (2 ^ (l.getD i z39).f1.toNat) js ∧ okX l one x) (pairR l one k i) := fun i => least_pick (hst i _) (hst i _)
  refine least_iff (least_first hpair (fun i j x y hij hx hy => ?_) l.length) fun x => ⟨?_, ?_⟩
  · obtain ⟨js, rfl⟩ : ∃ js, x = (i : Int) :: js := by rcases hx with ⟨js, h, _⟩ | ⟨js, h, _⟩ <;> exact ⟨js, h⟩
    obtain ⟨js', rfl⟩ : ∃ js, y = (j : Int) :: js := by rcases hy with ⟨js, h, _⟩ | ⟨js, h, _⟩ <;> exact ⟨js, h⟩
    exact cmpL_lt (by omega) _ _
  · rintro ⟨i, _, h⟩
    rcases h with ⟨js, h1, h2, _, h4⟩ | ⟨js, h1, h2, _, h4⟩
    all_goals
      have hl : x.length = k := by rw [h1, List.length_append, List.length_singleton]; omega
      exact ⟨hl, (okX_iff (by omega)).mp h4⟩
  · rintro ⟨hl, hr, ha⟩
    obtain ⟨fr, hfr, hw⟩ := id hr
    cases x with
    | nil => simp at hl; omega
    | cons j js =>
      obtain ⟨hj, v, h5, h6, h7⟩ := hw
      have gj := tieA_good hg hj
      have hp := other_parts gj.1 gj.2.1 h5
      have hv := hasB_iff.mp hp.2.1
      obtain ⟨i, rfl⟩ := Int.eq_ofNat_of_zero_le hj.1
      have hi : i < l.length := by have := hj.2; omega
      rw [Nat.zero_or] at h7
      have hd := WT_DT js _ _ h7
      have hta : tieA l (i : Int) = l.getD i z39 := by unfold tieA; rw [Int.toNat_natCast]
      rw [hta] at hv gj
      have hok := (okX_iff (one := one) (x := (i : Int) :: js) (by rw [hl]; exact h3)).mpr ⟨hr, ha⟩
      have hjl : js.length = k - 1 := by rw [List.length_cons] at hl; omega
      refine ⟨i, hi, ?_⟩
      rcases hv with e | e
      · left
        have : (l.getD i z39).f0.toNat = v := by omega
        rw [this]
        exact ⟨js, rfl, hjl, hd, hok⟩
      · right
        have : (l.getD i z39).f1.toNat = v := by omega
        rw [this]
        exact ⟨js, rfl, hjl, hd, hok⟩

/-! ### the program -/
theorem toT_other {t : S39} (h0 : 0 ≤ t.f0) (h1 : t.f0 < t.f1) (a v : Nat) : otherN t a = some v ↔ hasB t a = true ∧ v = toT t a := by
  constructor
  · intro h
    have hp := other_parts h0 h1 h
    have ha := hasB_iff.mp hp.1
    have hv := hasB_iff.mp hp.2.1
    refine ⟨hp.1, ?_⟩
    unfold toT
    have := hp.2.2
    omega
  · rintro ⟨ha, rfl⟩
    have ha' := hasB_iff.mp ha
    refine other_has h1 ha (hasB_iff.mpr ?_) ?_ <;> unfold toT <;> omega
theorem onF_iff (hg : goodT l) (fr : Nat) : ∀ d now at_ met fe x g, (x, g) ∈ onF l fr d now at_ met fe ↔ ∃ js, x = now ++ js ∧ js.length = d ∧ PT l fr at_ met js ∧ g = fe + feL l js
  | 0, now, at_, met, fe, x, g => by
    rw [onF]
    constructor
    · intro h
      by_cases e : at_ = fr
      · rw [if_pos e] at h
        have := List.mem_singleton.mp h
        cases this
        exact ⟨[], by simp, rfl, e, rfl⟩
      · rw [if_neg e] at h; exact absurd h (by simp)
    · rintro ⟨js, h1, h2, h3, h4⟩
      obtain rfl := List.eq_nil_of_length_eq_zero h2
      rw [PT] at h3
      rw [if_pos h3, List.mem_singleton, h1, h4, List.append_nil]; rfl
  | d + 1, now, at_, met, fe, x, g => by
    rw [onF, List.mem_flatMap]
    constructor
    · rintro ⟨i, hi, h⟩
      rw [List.mem_range] at hi
      by_cases hgo : goesB (l.getD i z39) fr d at_ met = true
      · rw [if_pos hgo] at h
        obtain ⟨js, h1, h2, h3, h4⟩ := (onF_iff hg fr d _ _ _ _ x g).mp h
        have hin : inR l (i : Int) := ⟨by omega, by omega⟩
        have hta : tieA l (i : Int) = l.getD i z39 := by unfold tieA; rw [Int.toNat_natCast]
        have gi := tieA_good hg hin
        rw [hta] at gi
        unfold goesB at hgo
        rw [Bool.and_eq_true] at hgo
        refine ⟨(i : Int) :: js, by rw [h1, List.append_assoc]; rfl, by simp [h2], ⟨hin, toT (l.getD i z39) at_, ?_, ?_, h3⟩, ?_⟩
        · rw [hta, toT_other gi.1 gi.2.1]; exact ⟨hgo.1, rfl⟩
        · by_cases e : js = []
          · rw [if_pos e]
            have hd : d = 0 := by rw [← h2, e]; rfl
            rw [if_pos hd] at hgo
            exact of_decide_eq_true hgo.2
          · rw [if_neg e]
            have hd : d ≠ 0 := fun hd => e (List.eq_nil_of_length_eq_zero (h2.trans hd))
            rw [if_neg hd] at hgo
            simpa using hgo.2
        · rw [h4, feL, hta, Nat.add_assoc]
      · rw [if_neg hgo] at h; exact absurd h (by simp)
    · rintro ⟨js, h1, h2, h3, h4⟩
      cases js with
      | nil => simp at h2
      | cons j js =>
        obtain ⟨hj, v, h5, h6, h7⟩ := h3
        have gj := tieA_good hg hj
        obtain ⟨i, rfl⟩ := Int.eq_ofNat_of_zero_le hj.1
        have hi : i < l.length := by have := hj.2; omega
        have hta : tieA l (i : Int) = l.getD i z39 := by unfold tieA; rw [Int.toNat_natCast]
        rw [hta] at gj h5
        have ht := (toT_other gj.1 gj.2.1 at_ v).mp h5
        have hjl : js.length = d := by simpa using h2
        refine ⟨i, List.mem_range.mpr hi, ?_⟩
        have hgo : goesB (l.getD i z39) fr d at_ met = true := by
          unfold goesB
          rw [ht.1, Bool.true_and, ← ht.2]
          by_cases e : js = []
          · rw [if_pos e] at h6
            rw [if_pos (by rw [← hjl, e]; rfl)]
            exact decide_eq_true h6
          · rw [if_neg e] at h6
            rw [if_neg (fun hd => e (List.eq_nil_of_length_eq_zero (hjl.trans hd))), h6]; rfl
        rw [if_pos hgo, onF_iff hg fr d, ← ht.2]
        refine ⟨js, by rw [h1, List.append_assoc]; rfl, hjl, h7, ?_⟩
        rw [h4, feL, hta, Nat.add_assoc]
theorem fromF_iff (hg : goodT l) {i d fr : Nat} (hi : i < l.length) (hf : fr = (l.getD i z39).f0.toNat ∨ fr = (l.getD i z39).f1.toNat) (x : List Int) (g : Nat) : (x, g) ∈ fromF l d i fr ↔ ∃ js, x = (i : Int) :: js ∧ js.length = d ∧ WT l fr fr 0 x ∧ g = feL l x := by
  have hin : inR l (i : Int) := ⟨by omega, by omega⟩
  have hta : tieA l (i : Int) = l.getD i z39 := by unfold tieA; rw [Int.toNat_natCast]
  have gi := tieA_good hg hin
  rw [hta] at gi
  have hh : hasB (l.getD i z39) fr = true := hasB_iff.mpr (by omega)
  have ho := (toT_other gi.1 gi.2.1 fr _).mpr ⟨hh, rfl⟩
  have hne := (other_parts gi.1 gi.2.1 ho).2.2
  have hm : 2 ^ (l.getD i z39).f0.toNat ||| 2 ^ (l.getD i z39).f1.toNat = 2 ^ toT (l.getD i z39) fr ||| 2 ^ fr := by
    rcases hf with e | e
    · have : (l.getD i z39).f1.toNat = toT (l.getD i z39) fr := by unfold toT; omega
      rw [this, ← e, Nat.or_comm]
    · have : (l.getD i z39).f0.toNat = toT (l.getD i z39) fr := by unfold toT; omega
      rw [this, ← e]
  unfold fromF
  rw [hm, onF_iff hg]
  have hz : (2 ^ toT (l.getD i z39) fr).testBit fr = false := by
    rw [tb_two, beq_eq_false_iff_ne]; exact hne
  refine exists_congr fun js => ?_
  constructor
  · rintro ⟨h1, h2, h3, h4⟩
    refine ⟨h1, h2, ?_, ?_⟩
    · rw [h1]
      show WT l fr fr 0 ((i : Int) :: js)
      refine ⟨hin, _, by rw [hta]; exact ho, Nat.zero_testBit _, ?_⟩
      rw [Nat.zero_or]
      exact (WT_PT js _ _ hz).mpr h3
    · rw [h1, h4]
      show _ = feL l ((i : Int) :: js)
      rw [feL, hta]
  · rintro ⟨h1, h2, h3, h4⟩
    rw [h1] at h3
    obtain ⟨_, v, h5, _, h7⟩ := h3
    rw [hta, ho] at h5
    cases h5
    rw [Nat.zero_or] at h7
    refine ⟨h1, h2, (WT_PT js _ _ hz).mp h7, ?_⟩
    rw [h4, h1, feL, hta]
theorem ringsF_iff (hg : goodT l) (d : Nat) (x : List Int) (g : Nat) : (x, g) ∈ ringsF l d ↔ x.length = d + 1 ∧ Ringy l x ∧ g = feL l x := by
  unfold ringsF ringsK
  rw [List.mem_flatMap]
  constructor
  · rintro ⟨i, hi, h⟩
    rw [List.mem_range] at hi
    have hta : tieA l (i : Int) = l.getD i z39 := by unfold tieA; rw [Int.toNat_natCast]
    rcases List.mem_append.mp h with h | h
    · obtain ⟨js, h1, h2, h3, h4⟩ := (fromF_iff hg hi (Or.inl rfl) x g).mp h
      refine ⟨by rw [h1, List.length_cons, h2], ⟨_, Or.inl ?_, h3⟩, h4⟩
      rw [h1]; show _ = (tieA l (i : Int)).f0.toNat; rw [hta]
    · obtain ⟨js, h1, h2, h3, h4⟩ := (fromF_iff hg hi (Or.inr rfl) x g).mp h
      refine ⟨by rw [h1, List.length_cons, h2], ⟨_, Or.inr ?_, h3⟩, h4⟩
      rw [h1]; show _ = (tieA l (i : Int)).f1.toNat; rw [hta]
  · rintro ⟨hl, ⟨fr, hf, hw⟩, h4⟩
    cases x with
    | nil => simp at hl
    | cons j js =>
      have hj := hw.1
      obtain ⟨i, rfl⟩ := Int.eq_ofNat_of_zero_le hj.1
      have hi : i < l.length := by have := hj.2; omega
      have hta : tieA l (i : Int) = l.getD i z39 := by unfold tieA; rw [Int.toNat_natCast]
      have hf' : fr = (l.getD i z39).f0.toNat ∨ fr = (l.getD i z39).f1.toNat := by rw [← hta]; exact hf
      have hjl : js.length = d := by simpa using hl
      refine ⟨i, List.mem_range.mpr hi, List.mem_append.mpr ?_⟩
      rcases hf' with e | e
      · left
        rw [← e]
        exact (fromF_iff hg hi (Or.inl e) _ g).mpr ⟨js, rfl, hjl, hw, h4⟩
      · right
        rw [← e]
        exact (fromF_iff hg hi (Or.inr e) _ g).mpr ⟨js, rfl, hjl, hw, h4⟩
theorem foldB_least (p : Nat → Bool) : ∀ (V : List (List Int × Nat)) (s : Option (List Int)) (P : List Int → Prop), IsLeast P s → IsLeast (fun x => P x ∨ ∃ g, (x, g) ∈ V ∧ p g = true) (foldV (stepB p) s V)
  | [], s, P, h => least_iff h fun x => ⟨Or.inl, fun h => h.elim id fun ⟨_, h, _⟩ => absurd h (by simp)⟩
  | (now, fe) :: V, s, P, h => by
    have h1 : IsLeast (fun x => P x ∨ (x = now ∧ p fe = true)) (stepB p s now fe) := by
      unfold stepB
      by_cases hp : p fe = true
      · rw [hp, Bool.true_and]
        cases s with
        | none =>
          rw [if_pos rfl]
          exact ⟨Or.inr ⟨rfl, rfl⟩, fun x hx => hx.elim (fun hx => absurd hx (h x)) fun hx => by rw [hx.1, cmpL_self]; decide⟩
        | some b =>
          dsimp only
          by_cases hb : cmpL now b < 0
          · rw [if_pos (decide_eq_true hb)]
            exact ⟨Or.inr ⟨rfl, rfl⟩, fun x hx => hx.elim (fun hx => cmpL_trans _ _ _ (by omega) (h.2 x hx)) fun hx => by rw [hx.1, cmpL_self]; decide⟩
          · rw [if_neg (by simpa using hb)]
            have := cmpL_swap now b
            exact ⟨Or.inl h.1, fun x hx => hx.elim (h.2 x) fun hx => by rw [hx.1]; omega⟩
      · have hp' : p fe = false := by simpa using hp
        rw [hp', Bool.false_and, if_neg Bool.false_ne_true]
        exact least_iff h fun x => ⟨Or.inl, fun hx => hx.elim id fun hx => absurd hx.2 Bool.false_ne_true⟩
    have h2 := foldB_least p V _ _ h1
    refine least_iff h2 fun x => ⟨?_, ?_⟩
    · rintro ((h | ⟨rfl, h⟩) | ⟨g, h, hg⟩)
      · exact Or.inl h
      · exact Or.inr ⟨fe, List.mem_cons_self, h⟩
      · exact Or.inr ⟨g, List.mem_cons_of_mem _ h, hg⟩
    · rintro (h | ⟨g, h, hg⟩)
      · exact Or.inl (Or.inl h)
      · rcases List.mem_cons.mp h with e | e
        · cases e; exact Or.inl (Or.inr ⟨rfl, hg⟩)
        · exact Or.inr ⟨g, e, hg⟩
theorem bestN_least (hg : goodT l) (p : Nat → Bool) (one : Bool) (hp : ∀ g : Nat, p g = askB one (g : Int)) {k : Nat} (h3 : 3 ≤ k) : IsLeast (RingP l one k) (bestN p l k) := by
  unfold bestN
  refine least_iff (foldB_least p (ringsF l (k - 1)) none (fun _ => False) (fun _ h => h)) fun x => ⟨?_, ?_⟩
  · rintro (h | ⟨g, h, hg'⟩)
    · exact h.elim
    · obtain ⟨h1, h2, h4⟩ := (ringsF_iff hg _ x g).mp h
      refine ⟨by omega, h2, ?_⟩
      rw [← hp, ← h4]; exact hg'
  · rintro ⟨h1, h2, h4⟩
    exact Or.inr ⟨feL l x, (ringsF_iff hg _ x _).mpr ⟨by omega, h2, rfl⟩, by rw [hp]; exact h4⟩
theorem firstN_congr {α : Type} {F G : Nat → Option α} (h : ∀ i, F i = G i) (m : Nat) : firstN F m = firstN G m := by
  rw [show F = G from funext h]
theorem find_short (hg : goodT l) (p : Nat → Bool) (one : Bool) (hp : ∀ g : Nat, p g = askB one (g : Int)) (n : Nat) : findF p l n = shortR l one n := by
  unfold findF shortR
  refine firstN_congr (fun k => ?_) _
  unfold bestA
  by_cases h : 3 ≤ k
  · rw [if_pos h]
    exact least_one (bestN_least hg p one hp h) (sizeR_least hg one h) (fun x => Iff.rfl)
  · rw [if_neg h]; unfold sizeR; rw [if_neg h]
theorem ask_odd (g : Nat) : oddB g = askB false (g : Int) := by
  unfold oddB askB
  rw [if_neg Bool.false_ne_true, Int.tmod_eq_emod_of_nonneg (Int.natCast_nonneg _)]
  by_cases h : g % 2 = 1
  · rw [beq_iff_eq.mpr h, beq_iff_eq.mpr (by omega)]
  · rw [beq_eq_false_iff_ne.mpr h, beq_eq_false_iff_ne.mpr (by omega)]
theorem ask_one (g : Nat) : oneB g = askB true (g : Int) := by
  unfold oneB askB
  rw [if_pos rfl]
  by_cases h : g = 1
  · rw [beq_iff_eq.mpr h, beq_iff_eq.mpr (by omega)]
  · rw [beq_eq_false_iff_ne.mpr h, beq_eq_false_iff_ne.mpr (by omega)]
end
end Go.Proofs.Ytaegldcifhgnmaa.B

/- Apart: the first lists of the sets of ties (plain). -/
namespace Go.Proofs.Ytaegldcifhgnmaa.B
open Go.Proofs.Ytaegldcifhgnmaa.A
open Go.RowKit Go.Proofs.YtaegldcifhgnmaaW.PrintWords Go.Proofs.YtaegldcifhgnmaaW.PrintMore

/-- The first lists when the rings with fewer ties than a number have been gone through. -/
def firstA (l : List S39) : Nat → Nat → Option (List Int)
  | 0 => fun _ => none
  | k + 1 => if 3 ≤ k then foldV stepA (firstA l k) (ringsF l (k - 1)) else firstA l k
theorem firstA_low (l : List S39) : ∀ k, k ≤ 3 → firstA l k = fun _ => none
  | 0, _ => rfl
  | k + 1, h => by rw [firstA, if_neg (by omega), firstA_low l k (by omega)]
theorem firstA_step (l : List S39) {k : Nat} (h : 3 ≤ k) : firstA l (k + 1) = foldV stepA (firstA l k) (ringsF l (k - 1)) := by rw [firstA, if_pos h]

theorem stepA_at (f : Nat → Option (List Int)) (now : List Int) (fe k : Nat) : stepA f now fe k = if setI now = k then stepB oddB (f k) now fe else f k := by
  unfold stepA stepB
  by_cases hk : setI now = k
  · subst hk
    rw [if_pos rfl]
    cases hf : f (setI now) with
    | none =>
      dsimp only
      by_cases hc : (oddB fe && true) = true
      · rw [if_pos hc, if_pos hc, if_pos rfl]
      · rw [if_neg hc, if_neg hc]; exact hf
    | some b =>
      dsimp only
      by_cases hc : (oddB fe && decide (cmpL now b < 0)) = true
      · rw [if_pos hc, if_pos hc, if_pos rfl]
      · rw [if_neg hc, if_neg hc]; exact hf
  · rw [if_neg hk]
    generalize (oddB fe && _) = c
    cases c
    · rfl
    · rw [if_pos rfl, if_neg (fun e => hk e.symm)]
theorem foldA_at : ∀ (V : List (List Int × Nat)) (f : Nat → Option (List Int)) (k : Nat), foldV stepA f V k = foldV (stepB oddB) (f k) (V.filter fun x => setI x.1 == k)
  | [], _, _ => rfl
  | (now, fe) :: V, f, k => by
    have h1 := foldA_at V (stepA f now fe) k
    rw [stepA_at] at h1
    rw [show foldV stepA f ((now, fe) :: V) k = foldV stepA (stepA f now fe) V k from rfl, h1]
    by_cases hk : setI now = k
    · rw [if_pos hk, List.filter_cons_of_pos (by simpa using hk)]; rfl
    · rw [if_neg hk, List.filter_cons_of_neg (by simpa using hk)]

variable {l : List S39}
/-- An odd ring. -/
def OddRing (l : List S39) (x : List Int) : Prop := 3 ≤ x.length ∧ Ringy l x ∧ oddB (feL l x) = true
theorem firstA_least (hg : goodT l) : ∀ m k, IsLeast (fun x => OddRing l x ∧ x.length < m ∧ setI x = k) (firstA l m k)
  | 0, _ => fun x h => Nat.not_lt_zero _ h.2.1
  | m + 1, k => by
    have ih := firstA_least hg m k
    by_cases h3 : 3 ≤ m
    · rw [firstA_step l h3, foldA_at]
      refine least_iff (foldB_least oddB _ _ _ ih) fun x => ⟨?_, ?_⟩
      · rintro (⟨h, h1, h2⟩ | ⟨g, h, hodd⟩)
        · exact ⟨h, by omega, h2⟩
        · rw [List.mem_filter] at h
          obtain ⟨h1, h2, h4⟩ := (ringsF_iff hg _ x g).mp h.1
          exact ⟨⟨by omega, h2, by rw [← h4]; exact hodd⟩, by omega, by simpa using h.2⟩
      · rintro ⟨h, h1, h2⟩
        by_cases hm : x.length < m
        · exact Or.inl ⟨h, hm, h2⟩
        · exact Or.inr ⟨feL l x, List.mem_filter.mpr ⟨(ringsF_iff hg _ x _).mpr ⟨by omega, h.2.1, rfl⟩, by simpa using h2⟩, h.2.2⟩
    · rw [firstA, if_neg h3]
      exact least_iff ih fun x => ⟨fun h => ⟨h.1, by omega, h.2.2⟩, fun h => ⟨h.1, by have := h.1.1; omega, h.2.2⟩⟩
theorem ringy_in {x : List Int} (h : Ringy l x) : ∀ j ∈ x, inR l j := by
  obtain ⟨fr, _, hw⟩ := h
  exact WT_in x _ _ hw
theorem firstA_mem (hg : goodT l) {m k : Nat} {b : List Int} (h : firstA l m k = some b) : OddRing l b ∧ b.length < m ∧ setI b = k := by
  have := firstA_least hg m k
  rw [h] at this
  exact this.1
theorem firstA_small (hg : goodT l) {m k : Nat} (h : firstA l m k ≠ none) : k < 2 ^ l.length := by
  obtain ⟨b, hb⟩ := Option.ne_none_iff_exists'.mp h
  have h1 := firstA_mem hg hb
  rw [← h1.2.2]
  exact setI_lt fun x hx => by have := ringy_in h1.1.2.1 x hx; unfold inR at this; omega
theorem firstA_bd (hg : goodT l) {m k : Nat} {b : List Int} (h : firstA l m k = some b) : ∀ i ∈ b, 0 ≤ i ∧ i < (l.length : Int) := fun i hi => by
  have := ringy_in (firstA_mem hg h).1.2.1 i hi; unfold inR at this; omega
end Go.Proofs.Ytaegldcifhgnmaa.B

/- The library's contracts of slices.SortFunc at this program's numbers (laid by the kit's lay-shelf and lay-plain). -/
namespace Go.Proofs
open Go.Shelf
def Try.laysSlF6_f69_ren : Go.Shelf.Ren := ⟨fun | 6 => 69 | 15 => 85 | 14 => 84 | 28 => 99 | 29 => 100 | 20 => 91 | 21 => 92 | 22 => 93 | 23 => 94 | 24 => 95 | 25 => 96 | 26 => 97 | 27 => 98 | 46 => 111 | 47 => 112 | 48 => 113 | 49 => 114 | 50 => 115 | 57 => 119 | n => n, fun | 22 => 53 | 24 => 28 | 25 => 79 | 3 => 3 | 39 => 99 | 0 => 0 | 53 => 111 | 55 => 113 | 4 => 4 | 46 => 105 | 45 => 104 | 50 => 73 | 5 => 5 | 9 => 9 | 66 => 121 | 70 => 125 | 76 => 129 | 77 => 130 | n => n, fun | n => n⟩
theorem Try.laysSlF6_f69 : Go.Proofs.SlLaysF.n6 Try.prog Try.laysSlF6_f69_ren := {
  mixed := by kernel_rfl
  f6 := ⟨Try.f69.name, by decide, Try.func69.trans (congrArg some (by kernel_rfl))⟩
  f14 := ⟨Try.f84.name, by decide, Try.func84.trans (congrArg some (by kernel_rfl))⟩
  f15 := Try.func85.trans (congrArg some (by kernel_rfl))
  f20 := ⟨Try.f91.name, by decide, Try.func91.trans (congrArg some (by kernel_rfl))⟩
  f21 := ⟨Try.f92.name, by decide, Try.func92.trans (congrArg some (by kernel_rfl))⟩
  f22 := ⟨Try.f93.name, by decide, Try.func93.trans (congrArg some (by kernel_rfl))⟩
  f23 := ⟨Try.f94.name, by decide, Try.func94.trans (congrArg some (by kernel_rfl))⟩
  f24 := ⟨Try.f95.name, by decide, Try.func95.trans (congrArg some (by kernel_rfl))⟩
  f25 := ⟨Try.f96.name, by decide, Try.func96.trans (congrArg some (by kernel_rfl))⟩
  f26 := ⟨Try.f97.name, by decide, Try.func97.trans (congrArg some (by kernel_rfl))⟩
  f27 := ⟨Try.f98.name, by decide, Try.func98.trans (congrArg some (by kernel_rfl))⟩
  f28 := Try.func99.trans (congrArg some (by kernel_rfl))
  f29 := Try.func100.trans (congrArg some (by kernel_rfl))
  f46 := ⟨Try.f111.name, by decide, Try.func111.trans (congrArg some (by kernel_rfl))⟩
  f47 := Try.func112.trans (congrArg some (by kernel_rfl))
  f48 := Try.func113.trans (congrArg some (by kernel_rfl))
  f49 := ⟨Try.f114.name, by decide, Try.func114.trans (congrArg some (by kernel_rfl))⟩
  f50 := ⟨Try.f115.name, by decide, Try.func115.trans (congrArg some (by kernel_rfl))⟩
  f57 := ⟨Try.f119.name, by decide, Try.func119.trans (congrArg some (by kernel_rfl))⟩
  t0 := Try.underlying0
  a0 := Try.isAgg0
  z0 := Try.sizeOf0
  v0 := Try.zeroValue0
  t3 := Try.underlying3
  a3 := Try.isAgg3
  z3 := Try.sizeOf3
  v3 := Try.zeroValue3
  t4 := Try.underlying4
  a4 := Try.isAgg4
  z4 := Try.sizeOf4
  v4 := Try.zeroValue4
  t5 := Try.underlying5
  a5 := Try.isAgg5
  z5 := Try.sizeOf5
  v5 := Try.zeroValue5
  t9 := Try.underlying9
  a9 := Try.isAgg9
  z9 := Try.sizeOf9
  v9 := Try.zeroValue9
  t22 := Try.underlying53
  a22 := Try.isAgg53
  z22 := Try.sizeOf53
  v22 := Try.zeroValue53
  a24 := Try.isAgg28
  z24 := Try.sizeOf28
  t25 := Try.underlying79
  a25 := Try.isAgg79
  z25 := Try.sizeOf79
  v25 := Try.zeroValue79
  t39 := Try.underlying99
  a39 := Try.isAgg99
  z39 := Try.sizeOf99
  v39 := Try.zeroValue99
  t45 := Try.underlying104
  a45 := Try.isAgg104
  z45 := Try.sizeOf104
  v45 := Try.zeroValue104
  t46 := Try.underlying105
  a46 := Try.isAgg105
  z46 := Try.sizeOf105
  v46 := Try.zeroValue105
  t50 := Try.underlying73
  a50 := Try.isAgg73
  z50 := Try.sizeOf73
  v50 := Try.zeroValue73
  t53 := Try.underlying111
  a53 := Try.isAgg111
  z53 := Try.sizeOf111
  v53 := Try.zeroValue111
  t55 := Try.underlying113
  a55 := Try.isAgg113
  z55 := Try.sizeOf113
  v55 := Try.zeroValue113
  t66 := Try.underlying121
  a66 := Try.isAgg121
  z66 := Try.sizeOf121
  v66 := Try.zeroValue121
  t70 := Try.underlying125
  a70 := Try.isAgg125
  z70 := Try.sizeOf125
  v70 := Try.zeroValue125
  t76 := Try.underlying129
  a76 := Try.isAgg129
  z76 := Try.sizeOf129
  v76 := Try.zeroValue129
  t77 := Try.underlying130
  a77 := Try.isAgg130
  z77 := Try.sizeOf130
  v77 := Try.zeroValue130 }
open Go.RowKit Go.Lib Go.Sort in
/-- **slices.SortFunc, IN THE DOCUMENTATION's OWN TERMS: A PERMUTATION OF WHAT THE ROW HELD, SORTED BY 'cmp(a, b) < 0'.** Which of two equals comes first is left open ("The sort is not guaranteed to be stable"). (LAID AT THE INSTANCE 'slices.SortFunc[[][]int,[]int]': no walk: one application.) -/
theorem Try.slices_SortFunc {α : Type} [Inhabited α] (enc : α → Value) (h1 : OneCell enc) (cf : α → α → Int) (hO : SWO (ltOf cf)) (g : Nat) (cb : Array Value) (blk off cap : Nat) (d : Array α) (w : World) (eg : ∀ args w, (callFunc g args).run Try.prog w = .ok (.enter g args) w) (hcmp : CmpLays1 Try.prog g cb enc cf blk off d.size w) (hH : Holds enc w blk off d) (hblk : blk < w.heap.size) (hsz : d.size < 4611686018427387904) :
    Calls Try.prog 69 #[.slice (some ⟨blk, off, none⟩) d.size cap, .func (.func g) #[] cb] w fun e w' =>
      e = .returned (.tuple #[]) ∧ ∃ d' n os, PermIn 0 d.size d d' ∧ SortedIn (ltOf cf) 0 d.size d' ∧ w' = sortWorld enc w blk off n d' os := Any.slices_SortFunc Try.laysSlF6_f69 enc h1 cf hO g cb blk off cap d w eg hcmp hH hblk hsz
def Try.laysSlF06_f69_ren : Go.Shelf.Ren := ⟨fun | 6 => 69 | 15 => 85 | 14 => 84 | 28 => 99 | 29 => 100 | 20 => 91 | 21 => 92 | 22 => 93 | 23 => 94 | 24 => 95 | 25 => 96 | 26 => 97 | 27 => 98 | 46 => 111 | 47 => 112 | 48 => 113 | 49 => 114 | 50 => 115 | 57 => 119 | n => n, fun | 22 => 53 | 24 => 28 | 25 => 79 | 3 => 3 | 39 => 99 | 0 => 0 | 53 => 111 | 55 => 113 | 4 => 4 | 46 => 105 | 45 => 104 | 50 => 73 | 5 => 5 | 9 => 9 | 66 => 121 | 70 => 125 | 76 => 129 | 77 => 130 | n => n, fun | n => n⟩
theorem Try.laysSlF06_f69 : Go.Proofs.SlLaysF0.n6 Try.prog Try.laysSlF06_f69_ren := {
  mixed := by kernel_rfl
  f6 := ⟨Try.f69.name, by decide, Try.func69.trans (congrArg some (by kernel_rfl))⟩
  f14 := ⟨Try.f84.name, by decide, Try.func84.trans (congrArg some (by kernel_rfl))⟩
  f15 := Try.func85.trans (congrArg some (by kernel_rfl))
  f20 := ⟨Try.f91.name, by decide, Try.func91.trans (congrArg some (by kernel_rfl))⟩
  f21 := ⟨Try.f92.name, by decide, Try.func92.trans (congrArg some (by kernel_rfl))⟩
  f22 := ⟨Try.f93.name, by decide, Try.func93.trans (congrArg some (by kernel_rfl))⟩
  f23 := ⟨Try.f94.name, by decide, Try.func94.trans (congrArg some (by kernel_rfl))⟩
  f24 := ⟨Try.f95.name, by decide, Try.func95.trans (congrArg some (by kernel_rfl))⟩
  f25 := ⟨Try.f96.name, by decide, Try.func96.trans (congrArg some (by kernel_rfl))⟩
  f26 := ⟨Try.f97.name, by decide, Try.func97.trans (congrArg some (by kernel_rfl))⟩
  f27 := ⟨Try.f98.name, by decide, Try.func98.trans (congrArg some (by kernel_rfl))⟩
  f28 := Try.func99.trans (congrArg some (by kernel_rfl))
  f29 := Try.func100.trans (congrArg some (by kernel_rfl))
  f46 := ⟨Try.f111.name, by decide, Try.func111.trans (congrArg some (by kernel_rfl))⟩
  f47 := Try.func112.trans (congrArg some (by kernel_rfl))
  f48 := Try.func113.trans (congrArg some (by kernel_rfl))
  f49 := ⟨Try.f114.name, by decide, Try.func114.trans (congrArg some (by kernel_rfl))⟩
  f50 := ⟨Try.f115.name, by decide, Try.func115.trans (congrArg some (by kernel_rfl))⟩
  f57 := ⟨Try.f119.name, by decide, Try.func119.trans (congrArg some (by kernel_rfl))⟩
  t0 := Try.underlying0
  a0 := Try.isAgg0
  z0 := Try.sizeOf0
  v0 := Try.zeroValue0
  t3 := Try.underlying3
  a3 := Try.isAgg3
  z3 := Try.sizeOf3
  v3 := Try.zeroValue3
  t4 := Try.underlying4
  a4 := Try.isAgg4
  z4 := Try.sizeOf4
  v4 := Try.zeroValue4
  t5 := Try.underlying5
  a5 := Try.isAgg5
  z5 := Try.sizeOf5
  v5 := Try.zeroValue5
  t9 := Try.underlying9
  a9 := Try.isAgg9
  z9 := Try.sizeOf9
  v9 := Try.zeroValue9
  t22 := Try.underlying53
  a22 := Try.isAgg53
  z22 := Try.sizeOf53
  v22 := Try.zeroValue53
  t25 := Try.underlying79
  a25 := Try.isAgg79
  z25 := Try.sizeOf79
  v25 := Try.zeroValue79
  t39 := Try.underlying99
  a39 := Try.isAgg99
  z39 := Try.sizeOf99
  v39 := Try.zeroValue99
  t45 := Try.underlying104
  a45 := Try.isAgg104
  z45 := Try.sizeOf104
  v45 := Try.zeroValue104
  t46 := Try.underlying105
  a46 := Try.isAgg105
  z46 := Try.sizeOf105
  v46 := Try.zeroValue105
  t50 := Try.underlying73
  a50 := Try.isAgg73
  z50 := Try.sizeOf73
  v50 := Try.zeroValue73
  t53 := Try.underlying111
  a53 := Try.isAgg111
  z53 := Try.sizeOf111
  v53 := Try.zeroValue111
  t55 := Try.underlying113
  a55 := Try.isAgg113
  z55 := Try.sizeOf113
  v55 := Try.zeroValue113
  t66 := Try.underlying121
  a66 := Try.isAgg121
  z66 := Try.sizeOf121
  v66 := Try.zeroValue121
  t70 := Try.underlying125
  a70 := Try.isAgg125
  z70 := Try.sizeOf125
  v70 := Try.zeroValue125
  t76 := Try.underlying129
  a76 := Try.isAgg129
  z76 := Try.sizeOf129
  v76 := Try.zeroValue129
  t77 := Try.underlying130
  a77 := Try.isAgg130
  z77 := Try.sizeOf130
  v77 := Try.zeroValue130 }
open Go.RowKit Go.Lib Go.Sort in
/-- **slices.SortFunc AT NO ELEMENT, A nil SLICE TOO: nothing turns.** (LAID AT THE INSTANCE 'slices.SortFunc[[][]int,[]int]': no walk: one application.) -/
theorem Try.slices_SortFunc_none {α : Type} [Inhabited α] (p : Option Addr) (cap : Nat) (fv : Value) (w : World) :
    Calls Try.prog 69 #[.slice p 0 cap, fv] w fun e w' => e = .returned (.tuple #[]) ∧ w' = w := AnyF.slices_SortFunc_none Try.laysSlF06_f69 p cap fv w
end Go.Proofs

/- Apart: rows of rows: sorted, copied. -/
namespace Go.Proofs.Ytaegldcifhgnmaa.A
open Go.RowKit Go.Proofs.YtaegldcifhgnmaaW.PrintWords Go.Proofs.YtaegldcifhgnmaaW.PrintMore Go.Sort Go.Lib
open Go.Proofs.Ytaegldcifhgnmaa.B (cmpL_self cmpL_swap cmpL_eq cmpL_trans)

/-- A row of numbers: the block and the room of its slice, and what it holds. -/
abbrev RowT := (Nat × Nat) × List Int
def encR (x : RowT) : Value := .slice (some ⟨x.1.1, 0, none⟩) x.2.length x.1.2
theorem encR_one (x : RowT) : (encR x).oneCell' = true := rfl
def kR : Kd RowT := Kd.scalar encR encR_one
/-- The row reads as it says. -/
def RowOk (W : World) (x : RowT) : Prop := x.2 ≠ [] ∧ x.2.length ≤ 1000 ∧ x.2.length ≤ x.1.2 ∧ RowAt W x.1.1 x.2
theorem RowOk.lt {W : World} {x : RowT} (h : RowOk W x) : x.1.1 < W.heap.size := h.2.2.2.lt
theorem RowOk.move {W W' : World} {x : RowT} (h : RowOk W x) (hm : W'.heap[x.1.1]? = W.heap[x.1.1]?) : RowOk W' x := ⟨h.1, h.2.1, h.2.2.1, h.2.2.2.move hm⟩
theorem RowOk.below {W W' : World} {x : RowT} (h : RowOk W x) (hb : Below W.heap.size W W') : RowOk W' x := h.move (hb.block _ h.lt)
theorem RowOk.ne {W : World} {x : RowT} (h : RowOk W x) {g e : Nat} {cs : Array Value} (hb : W.heap[g]? = some (.cells cs e (0, 0))) (he : e ≠ 3) : x.1.1 ≠ g := by
  intro e1
  obtain ⟨cs', h'⟩ := h.2.2.2.1
  rw [e1, hb] at h'
  cases h'
  exact he rfl
theorem cells_of_R {α : Type} {enc : α → Value} {h1 : ∀ x, (enc x).oneCell' = true} {e : Nat} {W : World} {base g n cap : Nat} {ok : Nat → Prop} {xs : List α} (h : (Kd.scalar enc h1).R e W base ok (.slice (some ⟨g, 0, none⟩) n cap) xs) :
    ∃ cur : Array Value, W.heap[g]? = some (.cells cur e (0, 0)) ∧ base ≤ g ∧ xs.length ≤ cap ∧ cap ≤ maxLen ∧ cur.size = cap ∧ cur.toList.take xs.length = xs.map enc := by
  rcases (Kd.own_of_R h).2 with ⟨h0, _⟩ | ⟨g', cap', cur, hv, hg, hb, h1, h2, h3, h4⟩
  · cases h0
  · cases hv
    exact ⟨cur, hb, hg, h1, h2, by simpa using h3, by simpa [encs] using h4⟩

/-! ### a row's cells put anew -/
section
variable {α : Type} [Inhabited α] {enc : α → Value}
theorem holds_of_row {w : World} {g : Nat} {cur : Array Value} {e : TypeId} {ss : List α} (hb : w.heap[g]? = some (.cells cur e (0, 0))) (ht : cur.toList.take ss.length = ss.map enc) : Holds enc w g 0 ss.toArray := by
  intro j hj
  have hj' : j < ss.length := by simpa using hj
  refine ⟨?_, by simp [World.frozen?, hb]⟩
  have h1 : (cur.toList.take ss.length)[j]? = (ss.map enc)[j]? := by rw [ht]
  rw [List.getElem?_take_of_lt hj'] at h1
  simp only [World.cell?, hb, Nat.zero_add]
  simp only [Option.isSome_none, Bool.false_eq_true, if_false]
  rw [← Array.getElem?_toList, h1]
  simp [hj']
theorem heap_sortedR {w : World} {g n : Nat} {os : Array Obj} {cur : Array Value} {e : TypeId} {fr : Nat × Nat} (d : Array α) (hb : w.heap[g]? = some (.cells cur e fr)) :
    (sortWorld enc w g 0 n d os).heap[g]? = some (.cells (putCells enc 0 d cur) e fr) := by
  have hg : g < w.heap.size := (Array.getElem?_eq_some_iff.1 hb).1
  unfold sortWorld
  rw [heap_grow_old _ _ (by simpa using hg)]
  simp [putRow, mapBlock, Sort.ahead, Array.getElem?_modify, hb, onCells]
theorem grownBy_sortedR {w : World} {g n : Nat} {os : Array Obj} (d : Array α) : w.grownBy (sortWorld enc w g 0 n d os) (some g) := by
  unfold sortWorld
  refine ⟨rfl, rfl, rfl, by simp, fun k hk hne => ?_⟩
  rw [heap_grow_old _ _ (by simpa using hk)]
  have : g ≠ k := fun e => hne (by rw [e])
  simp [putRow, mapBlock, Sort.ahead, Array.getElem?_modify, this]
theorem take_putCellsR (cur : Array Value) (ts : List α) (h : ts.length ≤ cur.size) : (putCells enc 0 ts.toArray cur).toList.take ts.length = ts.map enc := by
  apply List.ext_getElem?
  intro j
  by_cases hj : j < ts.length
  · rw [List.getElem?_take_of_lt hj, Array.getElem?_toList]
    simp [putCells, hj, show j < cur.size by omega]
  · rw [List.getElem?_take_eq_none (by omega), List.getElem?_eq_none (by simp; omega)]
end

/-! ### the order of lists -/
theorem cmp_swo {α : Type} (key : α → List Int) : SWO (ltOf fun x y : α => cmpL (key x) (key y)) where
  irrefl x := decide_eq_false (by have := cmpL_self (key x); show ¬ cmpL (key x) (key x) < 0; omega)
  trans x y z h1 h2 := by
    unfold ltOf at *
    dsimp only at *
    rw [decide_eq_true_iff] at *
    have h3 := cmpL_trans (key x) (key y) (key z) (by omega) (by omega)
    by_cases e : cmpL (key x) (key z) = 0
    · have h4 := cmpL_eq _ _ e
      rw [h4] at h1
      have := cmpL_swap (key y) (key z)
      omega
    · omega
  ntrans x y z h1 h2 := by
    unfold ltOf at *
    dsimp only at *
    rw [decide_eq_false_iff_not] at *
    have s1 := cmpL_swap (key x) (key y)
    have s2 := cmpL_swap (key y) (key z)
    have s3 := cmpL_swap (key x) (key z)
    have := cmpL_trans (key z) (key y) (key x) (by omega) (by omega)
    omega

theorem enters67 : ∀ args w, (callFunc 67 args).run Try.prog w = .ok (.enter 67 args) w := enters_of Try.func67 (by kernel_rfl) rfl
/-- slices.SortFunc by slices.Compare. -/
theorem sortR_any {v : Value} {base : Nat} {xs : List RowT} {w : World} (h : kR.R 28 w base (fun _ => True) v xs) (hok : ∀ x ∈ xs, RowOk w x) (hl : xs.length ≤ 1000000) :
    Calls Try.prog 69 #[v, .func (.func 67) #[] #[]] w fun e w' => e = .returned (.tuple #[]) ∧ ∃ ys : List RowT, ys.Perm xs ∧ ys.Pairwise (fun x y => cmpL x.2 y.2 ≤ 0) ∧ kR.R 28 w' base (fun _ => True) v ys ∧ w.grownBy w' v.ownBlock := by
  by_cases h0 : 0 < xs.length
  · obtain ⟨g, cap, rfl, _⟩ := Kd.R_form h h0
    obtain ⟨cur, hb, hbase, h1, h2, h3, h4⟩ := cells_of_R h
    have hlt : g < w.heap.size := blk_lt hb
    obtain ⟨x0, hx0⟩ : ∃ x0, x0 ∈ xs := ⟨_, List.getElem_mem h0⟩
    let α := { x : RowT // x ∈ xs }
    let enc : α → Value := fun x => encR x.1
    haveI : Inhabited α := ⟨⟨x0, hx0⟩⟩
    obtain ⟨d, hd⟩ : ∃ d : List α, d.map (·.1) = xs := ⟨xs.attach, List.attach_map_subtype_val xs⟩
    have hdl : d.length = xs.length := by rw [← hd, List.length_map]
    have hmap : d.map enc = xs.map encR := by rw [← hd, List.map_map]; rfl
    have hH : Holds enc w g 0 d.toArray := holds_of_row hb (by rw [hdl, h4, hmap])
    have hne : ∀ x : α, x.1.1.1 ≠ g := fun x => (hok x.1 x.2).ne hb (by decide)
    have hcmp : CmpReads Try.prog 67 #[] enc (fun x y : α => cmpL x.1.2 y.1.2) g 0 d.toArray.size w := fun m os dk _ x y => by
      have hmv : ∀ x : α, Kd.C (Kd.int .i64) (sortWorld enc w g 0 m dk os) (some ⟨x.1.1.1, 0, none⟩) x.1.2.length x.1.2 := fun x =>
        ((hok x.1 x.2).2.2.2.move ((grownBy_sortedR dk).block _ (hok x.1 x.2).lt (fun e => hne x (by cases e; rfl)))).2
      exact (Compare_calls _ _ x.1.2 _ _ y.1.2 _ (hmv x) (hmv y)).mono fun e w' ⟨he, hw⟩ => ⟨he, 0, by rw [← hw]; rfl⟩
    have hcon := Try.slices_SortFunc enc (fun _ => rfl) (fun x y : α => cmpL x.1.2 y.1.2) (cmp_swo fun x : α => x.1.2) 67 #[] g 0 cap d.toArray w enters67 hcmp.lays hH hlt (by simp; omega)
    have hsz : d.toArray.size = xs.length := by simp [hdl]
    rw [hsz] at hcon
    refine hcon.mono ?_
    rintro e w' ⟨rfl, d', n, os, hp, hs, rfl⟩
    refine ⟨rfl, d'.toList.map (·.1), ?_, ?_, ?_, grownBy_sortedR d'⟩
    · have hp2 := hp.2.2
      have e1 : d'.extract 0 xs.length = d' := by rw [← hsz, ← hp.1]; simp
      have e2 : d.toArray.extract 0 xs.length = d.toArray := by rw [← hsz]; simp
      rw [e1, e2] at hp2
      have := hp2.map (fun x : α => x.1)
      rw [List.toList_toArray, hd] at this
      exact this
    · rw [List.pairwise_map, List.pairwise_iff_getElem]
      intro i j hi hj hij
      have hjs : j < xs.length := by rw [← hsz, ← hp.1]; simpa using hj
      have := hs i j (Nat.zero_le _) hij hjs
      rw [getElem!_pos d' i (by simpa using hi), getElem!_pos d' j (by simpa using hj)] at this
      unfold ltOf at this
      dsimp only at this
      rw [decide_eq_false_iff_not] at this
      have hsw := cmpL_swap (d'[i]'(by simpa using hi)).1.2 (d'[j]'(by simpa using hj)).1.2
      simp only [Array.getElem_toList]
      omega
    · have hd'l : d'.toList.length = xs.length := by rw [Array.length_toList, hp.1, hsz]
      have hml : (d'.toList.map fun x : α => x.1).length = xs.length := by rw [List.length_map, hd'l]
      refine Kd.R_of_own ?_ (fun _ _ => trivial)
      rw [hml]
      refine ⟨by simp [encs, hd'l], .inr ⟨g, cap, _, rfl, hbase, heap_sortedR d' hb, h1, h2, by simp [putCells, h3], ?_⟩⟩
      have := take_putCellsR (enc := enc) cur d'.toList (by rw [hd'l, h3]; exact h1)
      rw [hd'l] at this
      rw [Nat.mul_one]
      show (putCells enc 0 d' cur).toList.take xs.length = encs encR (d'.toList.map fun x : α => x.1)
      rw [Array.toArray_toList] at this
      rw [this, encs, List.map_map]
      rfl
  · have hnil : xs = [] := List.length_eq_zero_iff.1 (by omega)
    subst hnil
    obtain ⟨A, c, rfl, _, _⟩ := Kd.R_reads h
    refine (Try.slices_SortFunc_none (α := Nat) A c _ w).mono ?_
    rintro e w' ⟨rfl, rfl⟩
    exact ⟨rfl, [], List.Perm.refl _, List.Pairwise.nil, h, World.grownBy.refl _ _⟩

/-! ### slices.Clone -/
def W_at (w : World) (ad : Addr) (j : Nat) (u : Value) : Prop := w.cell? (ad.add j) = some u
theorem info28 : (Try.prog.info? 28).map (fun i => (i.zero, i.size, i.bytes)) = some (some (.slice none 0 0), 1, 24) := by kernel_rfl
theorem cloneR_any {A : Option Addr} {c : Nat} {xs : List RowT} {w : World} (hr : kR.C w A xs.length xs) (hl : xs.length ≤ 1000000) (h0 : xs ≠ []) :
    Calls Try.prog 71 #[.slice A xs.length c] w fun e w' => ∃ v, e = .returned v ∧ kR.R 28 w' w.heap.size (fun _ => True) v xs ∧ Below w.heap.size w w' := by
  have hpos : 0 < xs.length := List.length_pos_iff.2 h0
  obtain ⟨ad, hA, hc⟩ := hr.2.2 hpos
  subst hA
  have hcell : ∀ (j : Nat) (x : RowT), xs[j]? = some x → W_at w ad j (encR x) := fun j x hj => by
    obtain ⟨cs, h1, h2, h3⟩ := hc j x hj
    have h2' : cs = [encR x] := h2
    subst h2'
    have := h3 0 _ rfl
    rwa [Nat.add_zero, show kR.sz = 1 from rfl, Nat.mul_one] at this
  have hsp : ad.spot = none := by
    have := hcell 0 xs[0] (List.getElem?_eq_getElem hpos)
    unfold W_at World.cell? at this
    split at this
    · split at this
      · cases this
      · rename_i hs
        cases hsp : ad.spot with
        | none => rfl
        | some s => exact absurd (by show (ad.add 0).spot.isSome = true; simp [Addr.add, hsp]) hs
    · cases this
  obtain ⟨b, o, s⟩ := ad
  simp only at hsp
  subst hsp
  obtain ⟨i0, hi, hz0, hz1, hz2⟩ := info_parts info28
  have := Try.slices_Clone_f71 i0 (.slice none 0 0) 1 24 hi hz0 hz1 hz2 rfl (by decide) Try.sizeOf28 b o xs.length c (xs.map encR) w (by rw [List.length_map, Nat.mul_one]) (by unfold maxLen; omega) (by omega) (fun j u hu => by
    rw [List.getElem?_map] at hu
    obtain ⟨x, hx, rfl⟩ := Option.map_eq_some_iff.1 hu
    have := hcell j x hx
    unfold W_at at this
    rwa [add_at] at this) (fun u hu => by
    obtain ⟨x, _, rfl⟩ := List.mem_map.1 hu
    rfl)
  exact this.mono fun e w' ⟨v, h1, h2, _, h3⟩ => ⟨v, h1, Kd.R_of_own h2 (fun _ _ => trivial), h3⟩
end Go.Proofs.Ytaegldcifhgnmaa.A

/- Apart: the search for the most rings: what it gives, and what the memory holds. -/
namespace Go.Proofs.Ytaegldcifhgnmaa.A
open Go.RowKit Go.Proofs.YtaegldcifhgnmaaW.PrintWords Go.Proofs.YtaegldcifhgnmaaW.PrintMore

/-! ### plain -/
/-- No tie of a list is used. -/
def disjB (used : Nat) (b : List Int) : Bool := b.all fun i => !used.testBit i.toNat
/-- The longer list. -/
def updL {α : Type} (now best : List α) : List α := if best.length < now.length then now else best
/-- The longest list that is found from the d-th last ring on. -/
def lpB {α : Type} [Inhabited α] (key : α → List Int) (all : List α) : Nat → Nat → List α → List α → List α
  | 0, _, _, best => best
  | d + 1, used, now, best => lpB key all d used now (if disjB used (key (all.getD (all.length - (d + 1)) default)) then lpB key all d (used ||| setI (key (all.getD (all.length - (d + 1)) default))) (now ++ [all.getD (all.length - (d + 1)) default]) (updL (now ++ [all.getD (all.length - (d + 1)) default]) best) else best)

def onV70 (nb bb ab ob : Nat) : Value := .func (.func 70) #[] #[.pointer (some ⟨nb, 0, none⟩), .pointer (some ⟨bb, 0, none⟩), .pointer (some ⟨ab, 0, none⟩), .pointer (some ⟨ob, 0, none⟩)]
theorem enters70 : ∀ args w, (callFunc 70 args).run Try.prog w = .ok (.enter 70 args) w := enters_of Try.func70 (by kernel_rfl) rfl

structure OnSt (w0 : World) (B nb bb ab ob : Nat) (all : List RowT) (vall vn vb : Value) (now best : List RowT) (W : World) : Prop where
  bl : Below B w0 W
  cn : W.heap[nb]? = some (.cells #[vn] 53 (0, 0))
  cb : W.heap[bb]? = some (.cells #[vb] 53 (0, 0))
  ca : W.heap[ab]? = some (.cells #[vall] 53 (0, 0))
  co : W.heap[ob]? = some (.cells #[onV70 nb bb ab ob] 83 (0, 0))
  lo : B ≤ nb ∧ B ≤ bb ∧ nb ≠ bb ∧ nb ≠ ab ∧ nb ≠ ob ∧ bb ≠ ab ∧ bb ≠ ob
  sz : B ≤ W.heap.size ∧ B ≤ w0.heap.size
  rn : kR.R 28 W B (fun _ => True) vn now
  rb : kR.R 28 W B (fun _ => True) vb best
  ra : kR.R 28 W B (fun _ => True) vall all
  n1 : ∀ k, vb.ownBlock = some k → some k ≠ vn.ownBlock
  n2 : ∀ k, vall.ownBlock = some k → some k ≠ vn.ownBlock
  ok : ∀ x ∈ all, RowOk W x
  ns : ∀ x ∈ now, x ∈ all
  bs : ∀ x ∈ best, x ∈ all
section
variable {w0 W W1 : World} {B nb bb ab ob : Nat} {all now best q : List RowT} {vall vn vb v1 : Value}
theorem typed_ne {e e' : Nat} {g : Nat} {cs : Array Value} {v : Value} {base : Nat} {xs : List RowT} (hr : kR.R e W base (fun _ => True) v xs) (hb : W.heap[g]? = some (.cells cs e' (0, 0))) (he : e ≠ e') : some g ≠ v.ownBlock := fun e1 => by
  obtain ⟨cs', h⟩ := Kd.R_typed hr g e1.symm
  rw [hb] at h
  cases h
  exact he rfl
theorem setCell_parts (w : World) (p : Addr) (u : Value) : (w.setCell p u).os = w.os ∧ (w.setCell p u).tape = w.tape ∧ (w.setCell p u).output = w.output ∧ (w.setCell p u).heap.size = w.heap.size := by
  unfold World.setCell; split <;> simp
theorem OnSt.next (h : OnSt w0 B nb bb ab ob all vall vn vb now best W) (hb : Below W.heap.size W W1) : OnSt w0 B nb bb ab ob all vall vn vb now best W1 :=
  ⟨h.bl.trans (hb.mono h.sz.1), (hb.block _ (blk_lt h.cn)).trans h.cn, (hb.block _ (blk_lt h.cb)).trans h.cb, (hb.block _ (blk_lt h.ca)).trans h.ca, (hb.block _ (blk_lt h.co)).trans h.co, h.lo, ⟨Nat.le_trans h.sz.1 hb.size, h.sz.2⟩, Kd.R_below h.rn hb, Kd.R_below h.rb hb, Kd.R_below h.ra hb, h.n1, h.n2, fun x hx => (h.ok x hx).below hb, h.ns, h.bs⟩
theorem R_moved {e : Nat} {v : Value} {base : Nat} {xs : List RowT} {W' : World} (hr : kR.R e W base (fun _ => True) v xs) (hm : ∀ k, v.ownBlock = some k → W'.heap[k]? = W.heap[k]?) : kR.R e W' base (fun _ => True) v xs := by
  obtain ⟨hok, inner, ho, hrr⟩ := hr
  exact ⟨hok, inner, own_move ho hm, hrr⟩
/-- The list's cell is stored; its row may have grown. -/
theorem OnSt.store (h : OnSt w0 B nb bb ab ob all vall vn vb now best W) (hg : W.grownBy W1 vn.ownBlock) (hr : kR.R 28 W1 B (fun _ => True) v1 q) (hat : v1.ownBlock = vn.ownBlock ∨ ∃ b, v1.ownBlock = some b ∧ W.heap.size ≤ b) (hq : ∀ x ∈ q, x ∈ all) :
    OnSt w0 B nb bb ab ob all vall v1 vb q best (W1.setCell ⟨nb, 0, none⟩ v1) := by
  have hp := setCell_parts W1 ⟨nb, 0, none⟩ v1
  have hblk : ∀ k, k < W.heap.size → some k ≠ vn.ownBlock → k ≠ nb → (W1.setCell ⟨nb, 0, none⟩ v1).heap[k]? = W.heap[k]? := fun k hk hne hn3 => (Below.heap_setCell _ _ _ _ hn3).trans (hg.block k hk hne)
  have hlow : ∀ k, k < B → some k ≠ vn.ownBlock := fun k hk e => by have := Kd.R_base h.rn k e.symm; omega
  have hnv1 : ∀ k, k < W.heap.size → some k ≠ vn.ownBlock → some k ≠ v1.ownBlock := fun k hk hne e => by
    rcases hat with ho | ⟨b, hb, hle⟩
    · exact hne (e.trans ho)
    · rw [hb] at e; cases e; omega
  have hsz := hg.size
  have l := h.lo
  refine ⟨⟨hp.1.trans (hg.os.trans h.bl.os), hp.2.1.trans (hg.tape.trans h.bl.tape), hp.2.2.1.trans (hg.output.trans h.bl.output), by rw [hp.2.2.2]; exact Nat.le_trans h.bl.size hsz, fun k hk => (hblk k (by have := h.sz.1; omega) (hlow k hk) (by omega)).trans (h.bl.block k hk)⟩, ?_, ?_, ?_, ?_, l, ⟨by rw [hp.2.2.2]; have := h.sz.1; omega, h.sz.2⟩, ?_, ?_, ?_, ?_, ?_, ?_, hq, h.bs⟩
  · exact blk_set ((hg.block nb (blk_lt h.cn) (typed_ne h.rn h.cn (by decide))).trans h.cn) 0 _
  · exact (hblk bb (blk_lt h.cb) (typed_ne h.rn h.cb (by decide)) (Ne.symm l.2.2.1)).trans h.cb
  · exact (hblk ab (blk_lt h.ca) (typed_ne h.rn h.ca (by decide)) (Ne.symm l.2.2.2.1)).trans h.ca
  · exact (hblk ob (blk_lt h.co) (typed_ne h.rn h.co (by decide)) (Ne.symm l.2.2.2.2.1)).trans h.co
  · refine R_moved hr fun k hk => Below.heap_setCell _ _ _ _ fun e => ?_
    have h1 := (hg.block nb (blk_lt h.cn) (typed_ne h.rn h.cn (by decide))).trans h.cn
    exact typed_ne hr h1 (by decide) (by rw [hk, show k = nb from e])
  · exact R_moved h.rb fun k hk => hblk k (Kd.R_lt h.rb k hk) (h.n1 k hk) fun e => typed_ne h.rb h.cn (by decide) (by rw [hk, e])
  · exact R_moved h.ra fun k hk => hblk k (Kd.R_lt h.ra k hk) (h.n2 k hk) fun e => typed_ne h.ra h.cn (by decide) (by rw [hk, e])
  · exact fun k hk => hnv1 k (Kd.R_lt h.rb k hk) (h.n1 k hk)
  · exact fun k hk => hnv1 k (Kd.R_lt h.ra k hk) (h.n2 k hk)
  · intro x hx
    have hx' := h.ok x hx
    refine hx'.move (hblk _ hx'.lt (fun e => ?_) (hx'.ne h.cn (by decide)))
    obtain ⟨cs, hcs⟩ := Kd.R_typed h.rn _ e.symm
    exact hx'.ne hcs (by decide) rfl
theorem OnSt.cut {A : Option Addr} {n c m : Nat} (h : OnSt w0 B nb bb ab ob all vall (.slice A n c) vb now best W) (hm : m ≤ now.length) (hq : now.take m = q) : OnSt w0 B nb bb ab ob all vall (.slice A m c) vb q best (W.setCell ⟨nb, 0, none⟩ (.slice A m c)) := by
  have hr := Kd.R_take (m := m) h.rn hm
  rw [hq] at hr
  exact h.store (World.grownBy.refl W _) hr (.inl own_slice_same) fun x hx => h.ns x (List.mem_of_mem_take (by rw [hq]; exact hx))
/-- The best list's cell is stored: a copy. -/
theorem OnSt.keep (h : OnSt w0 B nb bb ab ob all vall vn vb now best W) (hb : Below W.heap.size W W1) (hr : kR.R 28 W1 W.heap.size (fun _ => True) v1 now) : OnSt w0 B nb bb ab ob all vall vn v1 now now (W1.setCell ⟨bb, 0, none⟩ v1) := by
  have hp := setCell_parts W1 ⟨bb, 0, none⟩ v1
  have hblk : ∀ k, k < W.heap.size → k ≠ bb → (W1.setCell ⟨bb, 0, none⟩ v1).heap[k]? = W.heap[k]? := fun k hk hne => (Below.heap_setCell _ _ _ _ hne).trans (hb.block k hk)
  have hsz := hb.size
  have l := h.lo
  refine ⟨⟨hp.1.trans (hb.os.trans h.bl.os), hp.2.1.trans (hb.tape.trans h.bl.tape), hp.2.2.1.trans (hb.output.trans h.bl.output), by rw [hp.2.2.2]; exact Nat.le_trans h.bl.size hsz, fun k hk => (hblk k (by have := h.sz.1; omega) (by omega)).trans (h.bl.block k hk)⟩, ?_, ?_, ?_, ?_, l, ⟨by rw [hp.2.2.2]; have := h.sz.1; omega, h.sz.2⟩, ?_, ?_, ?_, ?_, h.n2, ?_, h.ns, h.ns⟩
  · exact (hblk nb (blk_lt h.cn) l.2.2.1).trans h.cn
  · exact blk_set ((hb.block bb (blk_lt h.cb)).trans h.cb) 0 _
  · exact (hblk ab (blk_lt h.ca) (Ne.symm l.2.2.2.2.2.1)).trans h.ca
  · exact (hblk ob (blk_lt h.co) (Ne.symm l.2.2.2.2.2.2)).trans h.co
  · exact R_moved h.rn fun k hk => hblk k (Kd.R_lt h.rn k hk) fun e => typed_ne h.rn h.cb (by decide) (by rw [hk, e])
  · refine Kd.R_lower (R_moved hr fun k hk => Below.heap_setCell _ _ _ _ fun e => ?_) h.sz.1
    have := Kd.R_base hr k hk
    have := blk_lt h.cb
    have e' : k = bb := e
    omega
  · exact R_moved h.ra fun k hk => hblk k (Kd.R_lt h.ra k hk) fun e => typed_ne h.ra h.cb (by decide) (by rw [hk, e])
  · intro k hk e
    have := Kd.R_base hr k hk
    have := Kd.R_lt h.rn k e.symm
    omega
  · exact fun x hx => (h.ok x hx).move (hblk _ (h.ok x hx).lt ((h.ok x hx).ne h.cb (by decide)))
end
end Go.Proofs.Ytaegldcifhgnmaa.A

/- A drawn region with guards that say no, operation by operation. -/
namespace Go.Proofs.Ytaegldcifhgnmaa.A
variable {P : Program} {ops : Array Oper} {Q : Exit → Act → World → Prop} {md : Region.Mode} {S : World → Prop} {oi : Oper} {fuel : Nat} {listed : Array Bool} {a : Act} {w : World}

theorem noPanic_not {Q : Exit → Act → World → Prop} {c : List PanicEntry} {a : Act} {w : World} : ¬ NoPanic Q (.panic c) a w := fun h => h

theorem H_off (i d : Nat) (ho : ops[i]? = some oi) (hd : oi.dst = some d) (hn : Region.noSelect ops = true) (hf : Region.free md ops listed i = true) (hr : (Region.ready md ops listed).contains i = true)
    (hw : Region.wanted oi (yielded ops a.tmps) = false) (hS : S w) (h : wpAnyH P md ops (NoPanic Q) S fuel (listed.setIfInBounds i true) (a.put (some d) undef) w) : wpAnyH P md ops (NoPanic Q) S (fuel + 1) listed a w :=
  wpAnyH_take ho hn hf hr (fun _ _ _ h => (noPanic_not h).elim) (Or.inr ⟨hw, rfl⟩) hS (by rw [hd]; exact h)

theorem H_on (i d : Nat) (v : Value) (ho : ops[i]? = some oi) (hd : oi.dst = some d) (hn : Region.noSelect ops = true) (hf : Region.free md ops listed i = true) (hr : (Region.ready md ops listed).contains i = true)
    (hw : Region.wanted oi (yielded ops a.tmps) = true) (hy : ∀ w, S w → (execOp a.eval oi).run P w = .ok (.value v) w) (hS : S w) (h : wpAnyH P md ops (NoPanic Q) S fuel (listed.setIfInBounds i true) (a.put (some d) v) w) : wpAnyH P md ops (NoPanic Q) S (fuel + 1) listed a w :=
  wpAnyH_take ho hn hf hr (fun _ _ _ h => (noPanic_not h).elim) (Or.inl ⟨hw, hy⟩) hS (by rw [hd]; exact h)
end Go.Proofs.Ytaegldcifhgnmaa.A

/- Apart: what is done with each ring. -/
namespace Go.Proofs.Ytaegldcifhgnmaa.A
open Go.RowKit Go.Proofs.YtaegldcifhgnmaaW.PrintWords Go.Proofs.YtaegldcifhgnmaaW.PrintMore

theorem enters66 : ∀ args w, (callFunc 66 args).run Try.prog w = .ok (.enter 66 args) w := enters_of Try.func66 (by kernel_rfl) rfl
theorem zero28 (w : World) : (zeroValue 28).run Try.prog w = .ok (.slice none 0 0) w := by kernel_rfl
theorem or_two60 {m a : Nat} (hm : m < 2 ^ 60) (ha : a < 60) : bits .or .i64 (m : Int) (2 ^ a) = ((m ||| 2 ^ a : Nat) : Int) := by
  rw [pow_cast]
  have : 2 ^ a < 2 ^ 60 := Nat.pow_lt_pow_right (by decide) ha
  exact or64 _ _ (by omega) (by omega)

def VPost (cb mb : Nat) (f : Nat → Option (List Int)) (S : Nat → Prop) (W : World) (now : List Int) (fe : Nat) (e : Ending) (w' : World) : Prop :=
  e = .returned (.bool false) ∧ ∃ S', FirstIs cb mb (stepA f now fe) S' w' ∧ (∀ k, S' k → S k ∨ W.heap.size ≤ k) ∧ Fw S W w'
section
variable {cb mb : Nat} {f : Nat → Option (List Int)} {S : Nat → Prop} {W w' : World} {now : List Int} {fe : Nat}
theorem VPost.stay (h : FirstIs cb mb f S W) (hb : Below W.heap.size W w') (hs : stepA f now fe = f) : VPost cb mb f S W now fe (.returned (.bool false)) w' :=
  ⟨rfl, S, by rw [hs]; exact first_keep h (fun k hk => hb.block k (h.lt k hk)), fun _ h => .inl h, Fw.of_below hb⟩

set_option maxRecDepth 100000 in
set_option maxHeartbeats 3200000 in
theorem visitA_calls (A : Option Addr) (c : Nat) (h : FirstIs cb mb f S W) (hr : Kd.C (Kd.int .i64) W A now.length now) (hn : now.length ≤ 1000) (hg : GoodL now) (hf : fe ≤ 1000) :
    Calls Try.prog 66 #[.slice A now.length c, .int .i64 fe, .pointer (some ⟨cb, 0, none⟩)] W (VPost cb mb f S W now fe) := by
  have HH := Aside0.mk h
  have HR := Aside0.mk hr
  have HN := Aside0.mk hg.1
  have HG := Aside0.mk hg.2
  have hlt : ∀ i, i ≤ now.length → setI (now.take i) < 2 ^ 60 := fun i _ => setI_lt (m := 60) fun x hx => by have := hg.2 x (List.mem_of_mem_take hx); omega
  have HLT := Aside0.mk hlt
  obtain ⟨a0, _⟩ := cells1 h.cell
  obtain ⟨K, hK⟩ : ∃ K, setI now = K := ⟨_, rfl⟩
  have HK := Aside0.mk hK
  have hK60 : K < 2 ^ 60 := by rw [← hK]; have := hlt now.length (Nat.le_refl _); rwa [List.take_length] at this
  clear h hr hg hlt hK
  go_enter Try.func66, Try.ntmps66
  go_wp2
  go_loopg [6, 8, 13] now.length (fun gg v6 _ v13 wr => ∃ i : Nat, i ≤ now.length ∧ now.length - i ≤ gg ∧ v13 = .int .i64 i ∧ v6 = .int .i64 (setI (now.take i) : Int) ∧ W = wr)
  case atStart => exact ⟨0, Nat.zero_le _, by omega, rfl, rfl, rfl⟩
  case round =>
    obtain ⟨i, hi, hgg, rfl, rfl, rfl⟩ := hrel
    by_cases hlt : i < now.length
    · have hltz : (i : Int) < (now.length : Int) := by omega
      obtain ⟨ad, rfl, hx⟩ := Kd.at_int HR.out (i : Int) (by omega) (by omega)
      rw [Int.toNat_natCast] at hx
      have hrd : rd now (i : Int) = now.getD i 0 := by simp [rd]
      have hin := HG.out _ (getD_mem 0 hlt)
      obtain ⟨a, ha⟩ := Int.eq_ofNat_of_zero_le hin.1
      rw [hrd, ha] at hx
      have ha60 : a < 60 := by omega
      have hset : setI (now.take (i + 1)) = setI (now.take i) ||| 2 ^ a := by
        rw [List.take_succ_eq_append_getElem hlt, setI_snoc]
        have : now[i] = (a : Int) := by rw [← ha, List.getD_eq_getElem?_getD, List.getElem?_eq_getElem hlt]; rfl
        rw [this, Int.toNat_natCast]
      have HSET := Aside0.mk hset
      have hm60 := HLT.out i hi
      clear hrd hin ha hset
      generalize hs : setI (now.take i) = m at hm60 HSET
      clear hs
      go_wp2
      go_roundg (now.length - (i + 1))
      case measure => omega
      case rel => exact ⟨i + 1, by omega, by omega, by go_num, by rw [HSET.out, ← or_two60 hm60 ha60, wrap64_two (by omega)], rfl⟩
    · have hltz : ¬ (i : Int) < (now.length : Int) := by omega
      obtain rfl : i = now.length := by omega
      rw [List.take_length, HK.out]
      obtain ⟨D, d0, d1, d2⟩ := HH.out.map
      have D0 := Aside0.mk d0
      have D1 := Aside0.mk d1
      have D2 := Aside0.mk d2
      have hkey := key64 hK60
      clear d0 d1 d2
      have hlook : ∀ v ps, RV v = some (D.atKey (.int .i64 (K : Int)) .nil, ps) → Maps.has D (.int .i64 (K : Int)) = false → v = .slice none 0 0 := fun v ps hv hh => by
        rw [Maps.atKey_of_not_has hh] at hv
        rcases RV_inv hv with ⟨e, _⟩ | ⟨g, n, c, _, e⟩
        · exact e
        · injection e with e1 _; cases e1
      cases ho : oddB fe with
      | false =>
        have HO := Aside0.mk ho
        have HST : Aside0 (stepA f now fe = f) := ⟨by unfold stepA; rw [ho]; rfl⟩
        clear ho hlook
        go_wp2_with (first
          | (at_lookup; refine wpList_lookup_own_ok _ rfl _ _ 76 rfl 3 28 keyed3 Try.underlying76 RV (zero28 _) .nil [] RV_nil mb _ D rfl D0.out _ _ rfl hkey ?_; intro v ps hv; clear hv)
          | (go_at_call 50; go_must (refine (says_odd.call fe _ hf).mono ?_; rw [HO.out]; rintro e w2 ⟨rfl, hb2⟩; have HB2 := Aside0.mk hb2; clear hb2)))
        go_ret
        exact VPost.stay HH.out HB2.out HST.out
      | true =>
        have HO := Aside0.mk ho
        cases hfk : f K with
        | none =>
          have hh : Maps.has D (.int .i64 (K : Int)) = false := by
            rw [← Bool.not_eq_true]
            intro hh
            obtain ⟨j, _, e, hj⟩ := D1.out _ hh
            injection e with _ e2
            have : K = j := by omega
            rw [← this] at hj
            exact hj hfk
          have HST : Aside0 (stepA f now fe = fun k => if k = K then some now else f k) := ⟨by unfold stepA; rw [ho, HK.out, hfk]; rfl⟩
          have HL := Aside0.mk hlook
          clear ho hfk hlook
          go_upto_region 9 with (first
            | (at_lookup; refine wpList_lookup_own_ok _ rfl _ _ 76 rfl 3 28 keyed3 Try.underlying76 RV (zero28 _) .nil [] RV_nil mb _ D rfl D0.out _ _ rfl hkey ?_; intro v ps hv; obtain rfl := HL.out v ps hv hh; clear hv; rw [hh])
            | (go_at_call 50; go_must (refine (says_odd.call fe _ hf).mono ?_; rw [HO.out]; rintro e w2 ⟨rfl, hb2⟩; have HB2 := Aside0.mk hb2; clear hb2)))
          have HC2 := Aside0.mk (show w2.heap[cb]? = some (.cells #[.map (some mb)] 76 (0, 0)) from (HB2.out.block cb (blk_lt HH.out.cell)).trans HH.out.cell)
          obtain ⟨SS, hSS⟩ : ∃ SS : World → Prop, SS = (fun w' => w'.cell? ⟨cb, 0, none⟩ = some (.map (some mb))) := ⟨_, rfl⟩
          have HSS : Aside0 (∀ w', Below W.heap.size W w' → SS w') := ⟨fun w' h => by rw [hSS]; exact (cells1 ((h.block cb (blk_lt HH.out.cell)).trans HH.out.cell)).1⟩
          have HSI : Aside0 (∀ w', w'.cell? ⟨cb, 0, none⟩ = some (.map (some mb)) → SS w') := ⟨fun w' h => by rw [hSS]; exact h⟩
          have HSO : Aside0 (∀ w', SS w' → w'.cell? ⟨cb, 0, none⟩ = some (.map (some mb))) := ⟨fun w' h => by rw [hSS] at h; exact h⟩
          clear hSS
          refine wp_region_noPanic ?_
          refine wp_region_held_drew (S := SS) (by kernel_rfl) (HSS.out _ (below_drew HB2.out)) (fun hHeld => ?_)
          refine H_on 0 40 ?v0 rfl rfl (by kernel_rfl) (by kernel_rfl) (by kernel_rfl) (by rfl) ?h0 hHeld ?r0
          case h0 => (intro w hSw; have s0 := HSO.out w hSw; go_simp <;> with_reducible rfl)
          simp only [Act.put, List.setIfInBounds_toArray, List.set_cons_zero, List.set_cons_succ]
          refine H_on 1 41 ?v1 rfl rfl (by kernel_rfl) (by kernel_rfl) (by kernel_rfl) (by rfl) ?h1 hHeld ?r1
          case h1 => (intro w hSw; have s0 := HSO.out w hSw; go_simp <;> with_reducible rfl)
          simp only [Act.put, List.setIfInBounds_toArray, List.set_cons_zero, List.set_cons_succ]
          refine H_on 2 42 ?v2 rfl rfl (by kernel_rfl) (by kernel_rfl) (by kernel_rfl) (by rfl) ?h2 hHeld ?r2
          case h2 => (intro w hSw; have s0 := HSO.out w hSw; go_simp <;> with_reducible rfl)
          simp only [Act.put, List.setIfInBounds_toArray, List.set_cons_zero, List.set_cons_succ]
          refine wpAnyH_ready (rs := [3]) (by kernel_rfl) (by simp) ?_
          refine AllReadyH.cons rfl (fun K' hK' => ?_) AllReadyH.nil
          go_simp
          refine (clone_calls (Kd.C_below HR.out (below_drew HB2.out)) hn HN.out).mono ?_
          rintro e w3 ⟨v3, rfl, hr3, hb3⟩
          have HR3 := Aside0.mk (Kd.R_lower hr3 (below_drew HB2.out).size)
          have HB3 : Aside0 (Below W.heap.size W w3) := ⟨below_then (below_drew HB2.out) (below_drew HB2.out).size hb3⟩
          clear hr3 hb3
          go_wp2_with fail
          refine hK'.out _ _ (HSS.out _ HB3.out) (fun hHeld => ?_)
          clear hK' K'
          try simp only [Act.put, List.setIfInBounds_toArray, List.set_cons_zero, List.set_cons_succ]
          obtain ⟨g3, cap3, hv3, hg3, hg3', _⟩ := Kd.R_form HR3.out (List.length_pos_iff.2 HN.out)
          subst hv3
          obtain ⟨_, hlc3, hC3⟩ := Kd.R_reads' HR3.out
          have HC3 : Aside0 (RowAt w3 g3 now) := ⟨⟨Kd.R_typed HR3.out g3 rfl, hC3⟩⟩
          have D3 : Aside0 (w3.ownsMap Try.prog 3 RV mb (Maps.size D) D) := ⟨owns_move D0.out (HB3.out.block mb (HH.out.lt mb HH.out.smb))⟩
          have hfew := owns_few D0.out (fun kl h => by obtain ⟨k, h1, h2, _⟩ := D1.out kl h; exact ⟨k, h1, h2⟩)
          obtain ⟨w4, hrun4, hown4, hturn4⟩ := D3.out.store keyed3 Try.underlying76 (by unfold maxLen; omega) hkey (RV_some g3 now.length cap3)
          have HF := Aside0.mk (first_put HH.out HB3.out D0.out D1.out D2.out hK60 HN.out hn hlc3 hg3 hg3' HC3.out hown4 hturn4.grown)
          have HB4 : Aside0 (S = S ∧ w3.heap.size ≤ w4.heap.size) := ⟨rfl, hturn4.grown.size⟩
          clear hown4 hturn4 hfew hC3 hlc3
          refine wpAnyH_ready (rs := [4]) (by kernel_rfl) (by simp) ?_
          refine AllReadyH.cons rfl (fun K' hK' => ?_) AllReadyH.nil
          go_simp
          refine hK' _ _ (HSI.out _ (cells1 HF.out.1.cell).1) (fun hHeld => ?_)
          clear hK' K'
          try simp only [Act.put, List.setIfInBounds_toArray, List.set_cons_zero, List.set_cons_succ]
          refine wpAnyH_done (by kernel_rfl) ?_ _
          refine NoPanic.normal ?_
          clear hrun4
          go_wp2
          go_ret
          exact ⟨rfl, fun j => S j ∨ j = g3, by rw [HST.out]; exact HF.out.1, fun k hk => hk.elim .inl fun e => .inr (by rw [e]; exact hg3), HF.out.2⟩
        | some b =>
          obtain ⟨g, c', e1, e2, e3, e4, e5, e6, e7, e8⟩ := D2.out K b hfk
          have HAT := Aside0.mk e3
          have hh : Maps.has D (.int .i64 (K : Int)) = true := e2
          have HRB := Aside0.mk e8.2
          have HL : Aside0 (∀ v ps, RV v = some (D.atKey (.int .i64 (K : Int)) .nil, ps) → v = .slice (some ⟨g, 0, none⟩) b.length c') := ⟨fun v ps hv => by rw [HAT.out] at hv; exact RV_hd hv⟩
          obtain ⟨z, hz⟩ : ∃ z, cmpL now b = z := ⟨_, rfl⟩
          have HC := Aside0.mk hz
          by_cases hlz : z < 0
          · have HST : Aside0 (stepA f now fe = fun k => if k = K then some now else f k) := ⟨by
              unfold stepA
              rw [ho, HK.out, hfk]
              dsimp only
              rw [if_pos (by rw [Bool.true_and]; exact decide_eq_true (by rw [hz]; exact hlz))]⟩
            clear ho hfk hlook e1 e2 e3 e4 e5 e6 e7 e8 hz
            go_upto_region 9 with (first
              | (at_lookup; refine wpList_lookup_own_ok _ rfl _ _ 76 rfl 3 28 keyed3 Try.underlying76 RV (zero28 _) .nil [] RV_nil mb _ D rfl D0.out _ _ rfl hkey ?_; intro v ps hv; obtain rfl := HL.out v ps hv; clear hv; rw [hh])
              | (go_at_call 50; go_must (refine (says_odd.call fe _ hf).mono ?_; rw [HO.out]; rintro e w2 ⟨rfl, hb2⟩; have HB2 := Aside0.mk hb2; clear hb2))
              | (go_at_call 67; go_must (refine (Compare_calls A c now (some ⟨g, 0, none⟩) c' b _ (Kd.C_below HR.out HB2.out) (Kd.C_below HRB.out HB2.out)).mono ?_; rw [HC.out]; rintro e w' ⟨rfl, rfl⟩)))
            have HC2 := Aside0.mk (show w2.heap[cb]? = some (.cells #[.map (some mb)] 76 (0, 0)) from (HB2.out.block cb (blk_lt HH.out.cell)).trans HH.out.cell)
            obtain ⟨SS, hSS⟩ : ∃ SS : World → Prop, SS = (fun w' => w'.cell? ⟨cb, 0, none⟩ = some (.map (some mb))) := ⟨_, rfl⟩
            have HSS : Aside0 (∀ w', Below W.heap.size W w' → SS w') := ⟨fun w' h => by rw [hSS]; exact (cells1 ((h.block cb (blk_lt HH.out.cell)).trans HH.out.cell)).1⟩
            have HSI : Aside0 (∀ w', w'.cell? ⟨cb, 0, none⟩ = some (.map (some mb)) → SS w') := ⟨fun w' h => by rw [hSS]; exact h⟩
            have HSO : Aside0 (∀ w', SS w' → w'.cell? ⟨cb, 0, none⟩ = some (.map (some mb))) := ⟨fun w' h => by rw [hSS] at h; exact h⟩
            clear hSS
            refine wp_region_noPanic ?_
            refine wp_region_held_drew (S := SS) (by kernel_rfl) (HSS.out _ (below_drew HB2.out)) (fun hHeld => ?_)
            refine H_on 0 40 ?vb0 rfl rfl (by kernel_rfl) (by kernel_rfl) (by kernel_rfl) (by rfl) ?hb0 hHeld ?rb0
            case hb0 => (intro w hSw; have s0 := HSO.out w hSw; go_simp <;> with_reducible rfl)
            simp only [Act.put, List.setIfInBounds_toArray, List.set_cons_zero, List.set_cons_succ]
            refine H_on 1 41 ?vb1 rfl rfl (by kernel_rfl) (by kernel_rfl) (by kernel_rfl) (by rfl) ?hb1 hHeld ?rb1
            case hb1 => (intro w hSw; have s0 := HSO.out w hSw; go_simp <;> with_reducible rfl)
            simp only [Act.put, List.setIfInBounds_toArray, List.set_cons_zero, List.set_cons_succ]
            refine H_on 2 42 ?vb2 rfl rfl (by kernel_rfl) (by kernel_rfl) (by kernel_rfl) (by rfl) ?hb2 hHeld ?rb2
            case hb2 => (intro w hSw; have s0 := HSO.out w hSw; go_simp <;> with_reducible rfl)
            simp only [Act.put, List.setIfInBounds_toArray, List.set_cons_zero, List.set_cons_succ]
            refine wpAnyH_ready (rs := [3]) (by kernel_rfl) (by simp) ?_
            refine AllReadyH.cons rfl (fun K' hK' => ?_) AllReadyH.nil
            go_simp
            refine (clone_calls (Kd.C_below HR.out (below_drew HB2.out)) hn HN.out).mono ?_
            rintro e w3 ⟨v3, rfl, hr3, hb3⟩
            have HR3 := Aside0.mk (Kd.R_lower hr3 (below_drew HB2.out).size)
            have HB3 : Aside0 (Below W.heap.size W w3) := ⟨below_then (below_drew HB2.out) (below_drew HB2.out).size hb3⟩
            clear hr3 hb3
            go_wp2_with fail
            refine hK'.out _ _ (HSS.out _ HB3.out) (fun hHeld => ?_)
            clear hK' K'
            try simp only [Act.put, List.setIfInBounds_toArray, List.set_cons_zero, List.set_cons_succ]
            obtain ⟨g3, cap3, hv3, hg3, hg3', _⟩ := Kd.R_form HR3.out (List.length_pos_iff.2 HN.out)
            subst hv3
            obtain ⟨_, hlc3, hC3⟩ := Kd.R_reads' HR3.out
            have HC3 : Aside0 (RowAt w3 g3 now) := ⟨⟨Kd.R_typed HR3.out g3 rfl, hC3⟩⟩
            have D3 : Aside0 (w3.ownsMap Try.prog 3 RV mb (Maps.size D) D) := ⟨owns_move D0.out (HB3.out.block mb (HH.out.lt mb HH.out.smb))⟩
            have hfew := owns_few D0.out (fun kl h => by obtain ⟨k, h1, h2, _⟩ := D1.out kl h; exact ⟨k, h1, h2⟩)
            obtain ⟨w4, hrun4, hown4, hturn4⟩ := D3.out.store keyed3 Try.underlying76 (by unfold maxLen; omega) hkey (RV_some g3 now.length cap3)
            have HF := Aside0.mk (first_put HH.out HB3.out D0.out D1.out D2.out hK60 HN.out hn hlc3 hg3 hg3' HC3.out hown4 hturn4.grown)
            have HB4 : Aside0 (S = S ∧ w3.heap.size ≤ w4.heap.size) := ⟨rfl, hturn4.grown.size⟩
            clear hown4 hturn4 hfew hC3 hlc3
            refine wpAnyH_ready (rs := [4]) (by kernel_rfl) (by simp) ?_
            refine AllReadyH.cons rfl (fun K' hK' => ?_) AllReadyH.nil
            go_simp
            refine hK' _ _ (HSI.out _ (cells1 HF.out.1.cell).1) (fun hHeld => ?_)
            clear hK' K'
            try simp only [Act.put, List.setIfInBounds_toArray, List.set_cons_zero, List.set_cons_succ]
            refine wpAnyH_done (by kernel_rfl) ?_ _
            refine NoPanic.normal ?_
            clear hrun4
            go_wp2
            go_ret
            exact ⟨rfl, fun j => S j ∨ j = g3, by rw [HST.out]; exact HF.out.1, fun k hk => hk.elim .inl fun e => .inr (by rw [e]; exact hg3), HF.out.2⟩
          · have HST : Aside0 (stepA f now fe = f) := ⟨by
              unfold stepA
              rw [ho, HK.out, hfk]
              dsimp only
              rw [if_neg (by rw [Bool.true_and]; intro h; have := of_decide_eq_true h; rw [hz] at this; exact hlz this)]⟩
            clear ho hfk hlook e1 e2 e3 e4 e5 e6 e7 e8 hz
            go_wp2_with (first
              | (at_lookup; refine wpList_lookup_own_ok _ rfl _ _ 76 rfl 3 28 keyed3 Try.underlying76 RV (zero28 _) .nil [] RV_nil mb _ D rfl D0.out _ _ rfl hkey ?_; intro v ps hv; obtain rfl := HL.out v ps hv; clear hv; rw [hh])
              | (go_at_call 50; go_must (refine (says_odd.call fe _ hf).mono ?_; rw [HO.out]; rintro e w2 ⟨rfl, hb2⟩; have HB2 := Aside0.mk hb2; clear hb2))
              | (go_at_call 67; go_must (refine (Compare_calls A c now (some ⟨g, 0, none⟩) c' b _ (Kd.C_below HR.out HB2.out) (Kd.C_below HRB.out HB2.out)).mono ?_; rw [HC.out]; rintro e w' ⟨rfl, rfl⟩)))
            go_ret
            exact VPost.stay HH.out HB2.out HST.out
theorem first_visitor : Visitor 66 #[.pointer (some ⟨cb, 0, none⟩)] stepA (FirstIs cb mb) where
  enters := enters66
  lt h := h.lt
  keep := first_keep
  call A c _ _ hI hr hn _ hg hf _ := visitA_calls A c hI hr hn hg hf
end
end Go.Proofs.Ytaegldcifhgnmaa.A

/- Apart: the search for the most rings, walked. -/
namespace Go.Proofs.Ytaegldcifhgnmaa.A
open Go.RowKit Go.Proofs.YtaegldcifhgnmaaW.PrintWords Go.Proofs.YtaegldcifhgnmaaW.PrintMore

theorem getD_append_left' {b : List Int} {i : Nat} (hi : i < b.length) : b.take (i + 1) = b.take i ++ [b.getD i 0] := by
  rw [List.take_succ_eq_append_getElem hi, List.getD_eq_getElem?_getD, List.getElem?_eq_getElem hi]; rfl
theorem disj_take {used : Nat} {b : List Int} {i : Nat} (hi : i < b.length) (h : disjB used (b.take i) = true) : disjB used (b.take (i + 1)) = !used.testBit (b.getD i 0).toNat := by
  unfold disjB at *
  rw [getD_append_left' hi, List.all_append, h, List.all_cons, List.all_nil, Bool.and_true, Bool.true_and]
theorem disj_no {used : Nat} {b : List Int} {i : Nat} (hi : i < b.length) (h : used.testBit (b.getD i 0).toNat = true) : disjB used b = false := by
  unfold disjB
  rw [List.all_eq_false]
  exact ⟨_, getD_mem 0 hi, by rw [h]; decide⟩

section
variable {w0 : World} {B nb bb ab ob : Nat} {all : List RowT} {vall : Value}
def keyR (x : RowT) : List Int := x.2
def OnPost70 (w0 : World) (B nb bb ab ob : Nat) (all : List RowT) (vall : Value) (now best : List RowT) (e : Ending) (w' : World) : Prop :=
  e = .returned (.tuple #[]) ∧ ∃ vn vb, OnSt w0 B nb bb ab ob all vall vn vb now best w'
def OnSaid70 (w0 : World) (B nb bb ab ob : Nat) (all : List RowT) (vall : Value) (d : Nat) : Prop :=
  ∀ (fr used : Nat) (now best : List RowT) (vn vb : Value) (W : World), OnSt w0 B nb bb ab ob all vall vn vb now best W → fr + d = all.length → used < 2 ^ 60 → now.length ≤ fr →
    Calls Try.prog 70 #[.int .i64 fr, .int .i64 used, .pointer (some ⟨nb, 0, none⟩), .pointer (some ⟨bb, 0, none⟩), .pointer (some ⟨ab, 0, none⟩), .pointer (some ⟨ob, 0, none⟩)] W (OnPost70 w0 B nb bb ab ob all vall now (lpB keyR all d used now (updL now best)))

theorem OnSt.reads {w0 W w' : World} {vall vn vb : Value} {now best : List RowT} {A : Option Addr} {n ca : Nat} (h : OnSt w0 B nb bb ab ob all vall vn vb now best W) (hg : W.grownBy w' vn.ownBlock) (hv : vall = .slice A n ca) {k : Nat} {ad : Addr} (hA : A = some ad) {y : RowT} (hk : k < all.length) (hy : all.getD k default = y) :
    w'.cell? ⟨ab, 0, none⟩ = some vall ∧ w'.cell? (ad.add k) = some (encR y) := by
  have hra : kR.R 28 w' B (fun _ => True) vall all := R_moved h.ra fun k hk => hg.block k (Kd.R_lt h.ra k hk) (h.n2 k hk)
  refine ⟨(cells1 ((hg.block ab (blk_lt h.ca) (typed_ne h.rn h.ca (by decide))).trans h.ca)).1, ?_⟩
  subst hv hA
  obtain ⟨_, _, hCa⟩ := Kd.R_reads' hra
  obtain ⟨ad', had, hx0⟩ := ReadsOf.at_ (Kd.reads_of_C (d := default) hCa) (k : Int) (by omega) (by have := hCa.1; omega)
  cases had
  rw [Int.toNat_natCast] at hx0
  have hrd : rdOf default all (k : Int) = all.getD k default := by simp [rdOf]
  rw [hrd, hy] at hx0
  exact hx0
theorem take_keyB {b : List Int} {i : Nat} (hi : i < b.length) {a : Nat} (ha : b.getD i 0 = (a : Int)) : setI (b.take (i + 1)) = setI (b.take i) ||| 2 ^ a := by
  rw [getD_append_left' hi, setI_snoc, ha, Int.toNat_natCast]
theorem setIn_ltB {b : List Int} (h : ∀ i ∈ b, 0 ≤ i ∧ i < 60) (i : Nat) : setI (b.take i) < 2 ^ 60 := setI_lt (m := 60) fun x hx => by have := h x (List.mem_of_mem_take hx); omega
theorem lp_stepB {all : List RowT} {k : Nat} {x : RowT} (hk : k < all.length) (hx : all.getD k default = x) (used : Nat) (now best : List RowT) :
    lpB keyR all (all.length - k) used now best = lpB keyR all (all.length - (k + 1)) used now (if disjB used x.2 then lpB keyR all (all.length - (k + 1)) (used ||| setI x.2) (now ++ [x]) (updL (now ++ [x]) best) else best) := by
  obtain ⟨d, hd⟩ : ∃ d, all.length - k = d + 1 := ⟨all.length - k - 1, by omega⟩
  rw [hd, lpB, show all.length - (d + 1) = k by omega, hx, show all.length - (k + 1) = d by omega]
  rfl

set_option linter.unusedSimpArgs false in
set_option maxRecDepth 100000 in
set_option maxHeartbeats 6400000 in
theorem on70_step (hal : all.length ≤ 100000) (hbd : ∀ x ∈ all, ∀ i ∈ x.2, 0 ≤ i ∧ i < 60) (d : Nat) (ih : ∀ d', d' < d → OnSaid70 w0 B nb bb ab ob all vall d') : OnSaid70 w0 B nb bb ab ob all vall d := by
  intro fr used now best vn vb W hO hfr hu hnf
  have HI := Aside0.mk ih
  have HO := Aside0.mk hO
  have HBD := Aside0.mk hbd
  obtain ⟨Z, hZ⟩ : ∃ Z, lpB keyR all d used now (updL now best) = Z := ⟨_, rfl⟩
  have HZ := Aside0.mk hZ
  rw [hZ]
  obtain ⟨An, cn, hvn, hcn, hCn⟩ := Kd.R_reads hO.rn
  obtain ⟨Ab, cb, hvb, hcb, _⟩ := Kd.R_reads hO.rb
  obtain ⟨Aa, ca, hva, hca, hCa⟩ := Kd.R_reads hO.ra
  subst hvn hvb hva
  have HCN := Aside0.mk hCn
  obtain ⟨l0, _⟩ := cells1 hO.cn
  obtain ⟨l1, lf1⟩ := cells1 hO.cb
  clear hO ih hbd hcn hcb hca hCn hCa hZ
  by_cases hlt : best.length < now.length
  · have hltz : (best.length : Int) < (now.length : Int) := by omega
    have HUP : Aside0 (updL now best = now) := ⟨by unfold updL; rw [if_pos hlt]⟩
    have hne : now ≠ [] := by intro e; rw [e] at hlt; exact absurd hlt (Nat.not_lt_zero _)
    go_enter Try.func70, Try.ntmps70
    go_wp2
    go_step3
    go_wp2_with (go_at_call 71; go_must (refine (cloneR_any HCN.out (by omega) hne).mono ?_; rintro e w3 ⟨v3, rfl, hr3, hb3⟩; obtain ⟨l3, lf3⟩ := cells1 ((hb3.block bb (blk_lt HO.out.cb)).trans HO.out.cb); have HO3 := Aside0.mk (HO.out.keep hb3 hr3); obtain ⟨A3, c3, hv3, _, _⟩ := Kd.R_reads hr3; subst hv3; clear hr3 hb3 l0 l1 lf1))
    obtain ⟨W5, hW5⟩ : ∃ W5, W5 = w3.setCell ⟨bb, 0, none⟩ (.slice A3 now.length c3) := ⟨_, rfl⟩
    have HL : Aside0 (∃ vb5, OnSt w0 B nb bb ab ob all (.slice Aa all.length ca) (.slice An now.length cn) vb5 now (updL now best) W5) := ⟨_, by rw [hW5, HUP.out]; exact HO3.out⟩
    rw [← hW5]
    clear hW5 HO3 l3 lf3 HUP HO HCN
    refine wp_label ?_
    go_wp2
    go_loopg [8, 9, 11, 32] all.length (fun gg v8 _ _ _ wr => ∃ (k : Nat) (vn vb : Value) (best' : List RowT), k ≤ all.length ∧ fr ≤ k ∧ all.length - k ≤ gg ∧ v8 = .int .i64 k ∧ Aside0 (OnSt w0 B nb bb ab ob all (.slice Aa all.length ca) vn vb now best' wr) ∧ Aside0 (lpB keyR all (all.length - k) used now best' = Z))
    case atStart =>
      obtain ⟨vb5, h5⟩ := HL.out
      exact ⟨fr, _, vb5, _, by omega, Nat.le_refl _, by omega, rfl, ⟨h5⟩, ⟨by rw [show all.length - fr = d by omega]; exact HZ.out⟩⟩
    case round =>
      clear HL HZ
      obtain ⟨k, vn, vb, best', hk, hfk, hgg, rfl, HP, HZ⟩ := hrel
      by_cases hkl : k < all.length
      · have hklz : (k : Int) < (all.length : Int) := by omega
        obtain ⟨hca, hca2, hCa⟩ := Kd.R_reads' HP.out.ra
        obtain ⟨ad, had, hx0⟩ := ReadsOf.at_ (Kd.reads_of_C (d := default) hCa) (k : Int) (by omega) (by omega)
        subst had
        rw [Int.toNat_natCast] at hx0
        have hrd : rdOf default all (k : Int) = all.getD k default := by simp [rdOf]
        rw [hrd] at hx0
        have hmem : all.getD k default ∈ all := getD_mem default hkl
        generalize hy : all.getD k default = y at hx0 hmem
        have HY := Aside0.mk hy
        have HMEM := Aside0.mk hmem
        obtain ⟨⟨g, c⟩, b⟩ := y
        have hx : wr.cell? (ad.add k) = some (.slice (some ⟨g, 0, none⟩) b.length c) := hx0
        have hok := HP.out.ok _ hmem
        have HRC : Aside0 (Kd.C (Kd.int .i64) wr (some ⟨g, 0, none⟩) b.length b) := ⟨hok.2.2.2.2⟩
        have hbl : b.length ≤ 1000 := hok.2.1
        have HB60 : Aside0 (∀ i ∈ b, 0 ≤ i ∧ i < 60) := ⟨HBD.out _ hmem⟩
        have HSTEP := Aside0.mk (lp_stepB hkl hy used now best')
        obtain ⟨l2, _⟩ := cells1 HP.out.ca
        clear hca hca2 hCa hx0 hrd hmem hy hok
        go_wp2
        go_loopg [9, 11, 32] b.length (fun g2 v9 _ v32 w2 => ∃ i : Nat, i ≤ b.length ∧ b.length - i ≤ g2 ∧ v32 = .int .i64 i ∧ v9 = .int .i64 ((used ||| setI (b.take i) : Nat) : Int) ∧ disjB used (b.take i) = true ∧ wr = w2)
        case atStart => exact ⟨0, Nat.zero_le _, by omega, rfl, by rw [List.take_zero]; show _ = Value.int .i64 ((used ||| 0 : Nat) : Int); rw [Nat.or_zero], rfl, rfl⟩
        case round =>
          obtain ⟨i, hi, hg2, rfl, rfl, hdj, rfl⟩ := hrel
          by_cases hil : i < b.length
          · have hilz : (i : Int) < (b.length : Int) := by omega
            obtain ⟨ad3, hr3, hx3⟩ := Kd.at_int HRC.out (i : Int) (by omega) (by omega)
            cases hr3
            rw [Int.toNat_natCast] at hx3
            have hrd3 : rd b (i : Int) = b.getD i 0 := by simp [rd]
            have hin := HB60.out _ (getD_mem 0 hil)
            obtain ⟨a, ha⟩ := Int.eq_ofNat_of_zero_le hin.1
            rw [hrd3, ha, show (⟨g, 0, none⟩ : Addr).add i = ⟨g, i, none⟩ by rw [add_at, Nat.zero_add]] at hx3
            have ha60 : a < 60 := by omega
            have hset := take_keyB hil ha
            have hd1 := disj_take (used := used) hil hdj
            rw [ha, Int.toNat_natCast] at hd1
            have HD1 := Aside0.mk hd1
            have hd2 := disj_no (used := used) hil
            rw [ha, Int.toNat_natCast] at hd2
            have HD2 := Aside0.mk hd2
            have HSET := Aside0.mk hset
            have hm60 := setIn_ltB HB60.out i
            have hbit := bit_ask (y := used) (k := a) (by omega) (by omega)
            clear hrd3 hin ha hset hd1 hd2 hdj
            cases htb : used.testBit a with
            | true =>
              rw [htb] at hbit
              have HNO := Aside0.mk (HD2.out htb)
              go_wp2
              go_roundg (all.length - (k + 1))
              case measure => omega
              case rel => exact ⟨k + 1, vn, vb, best', by omega, by omega, by omega, by go_num, HP, ⟨by rw [← HZ.out, HSTEP.out, HNO.out]; rfl⟩⟩
            | false =>
              rw [htb] at hbit HD1
              generalize hs : setI (b.take i) = m at hm60 HSET ⊢
              have HU := Aside0.mk (or_lt hu hm60)
              generalize hum : used ||| m = um at HU ⊢
              have HUM := Aside0.mk hum
              clear hum
              go_wp2
              go_roundg (b.length - (i + 1))
              case measure => omega
              case rel => exact ⟨i + 1, by omega, by omega, by go_num, by rw [HSET.out, ← Nat.or_assoc, HUM.out, ← or_two60 HU.out ha60, wrap64_two (by omega)], HD1.out, rfl⟩
          · have hilz : ¬ (i : Int) < (b.length : Int) := by omega
            obtain rfl : i = b.length := by omega
            rw [List.take_length] at hdj ⊢
            have HDJ := Aside0.mk hdj
            have hm60 := setIn_ltB HB60.out b.length
            rw [List.take_length] at hm60
            generalize hs : setI b = m at hm60 ⊢
            have HM := Aside0.mk hs
            clear hs hdj
            generalize hum : used ||| m = um
            have HUM := Aside0.mk hum
            have HU := Aside0.mk (show um < 2 ^ 60 by rw [← hum]; exact or_lt hu hm60)
            clear hum hm60
            obtain ⟨A1, c1, hv1, _, _⟩ := Kd.R_reads HP.out.rn
            subst hv1
            obtain ⟨Y, hYY⟩ : ∃ Y, lpB keyR all (all.length - (k + 1)) um (now ++ [((g, c), b)]) (updL (now ++ [((g, c), b)]) best') = Y := ⟨_, rfl⟩
            have HNEXT : Aside0 (lpB keyR all (all.length - (k + 1)) used now Y = Z) := ⟨by
              have := HSTEP.out
              try dsimp only at this
              rw [HDJ.out, if_pos rfl, HM.out, HUM.out, hYY] at this
              rw [← this]; exact HZ.out⟩
            have HREC : Aside0 (∀ V4 W6, OnSt w0 B nb bb ab ob all (.slice (some ad) all.length ca) V4 vb (now ++ [((g, c), b)]) best' W6 → Calls Try.prog 70 #[.int .i64 ((k : Int) + 1), .int .i64 um, .pointer (some ⟨nb, 0, none⟩), .pointer (some ⟨bb, 0, none⟩), .pointer (some ⟨ab, 0, none⟩), .pointer (some ⟨ob, 0, none⟩)] W6 (OnPost70 w0 B nb bb ab ob all (.slice (some ad) all.length ca) (now ++ [((g, c), b)]) Y)) := ⟨fun V4 W6 h6 => by
              have := HI.out (all.length - (k + 1)) (by omega) (k + 1) um (now ++ [((g, c), b)]) best' V4 vb W6 h6 (by omega) HU.out (by rw [List.length_append, List.length_singleton]; omega)
              rw [hYY, show ((k + 1 : Nat) : Int) = (k : Int) + 1 by omega] at this
              exact this⟩
            clear hYY
            go_wp2
            have HSG : Aside0 (∀ w', wr.grownBy w' (Value.slice A1 now.length c1).ownBlock → w'.cell? ⟨ab, 0, none⟩ = some (.slice (some ad) all.length ca) ∧ w'.cell? (ad.add k) = some (.slice (some ⟨g, 0, none⟩) b.length c)) := ⟨fun w' hg => HP.out.reads hg rfl rfl hkl HY.out⟩
            have HSP : Aside0 (∀ V W6, OnSt w0 B nb bb ab ob all (.slice (some ad) all.length ca) V vb (now ++ [((g, c), b)]) best' W6 → W6.cell? ⟨ab, 0, none⟩ = some (.slice (some ad) all.length ca) ∧ W6.cell? (ad.add k) = some (.slice (some ⟨g, 0, none⟩) b.length c)) := ⟨fun V W6 h => h.reads (World.grownBy.refl W6 _) rfl rfl hkl HY.out⟩
            obtain ⟨SS, hSS⟩ : ∃ SS : World → Prop, SS = (fun w' => w'.cell? ⟨ab, 0, none⟩ = some (.slice (some ad) all.length ca) ∧ w'.cell? (ad.add k) = some (.slice (some ⟨g, 0, none⟩) b.length c)) := ⟨_, rfl⟩
            have HSI : Aside0 (∀ w', (w'.cell? ⟨ab, 0, none⟩ = some (.slice (some ad) all.length ca) ∧ w'.cell? (ad.add k) = some (.slice (some ⟨g, 0, none⟩) b.length c)) → SS w') := ⟨fun w' h => by rw [hSS]; exact h⟩
            have HSO : Aside0 (∀ w', SS w' → w'.cell? ⟨ab, 0, none⟩ = some (.slice (some ad) all.length ca) ∧ w'.cell? (ad.add k) = some (.slice (some ⟨g, 0, none⟩) b.length c)) := ⟨fun w' h => by rw [hSS] at h; exact h⟩
            have HG0 : Aside0 (wr.grownBy wr.drew (Value.slice A1 now.length c1).ownBlock) := ⟨⟨rfl, rfl, rfl, Nat.le_refl _, fun _ _ _ => rfl⟩⟩
            have HG1 : Aside0 (wr.grownBy (wr.drew.alloc (.cells #[.slice (some ⟨g, 0, none⟩) b.length c] 28)) (Value.slice A1 now.length c1).ownBlock) := ⟨HG0.out.trans (World.grownBy_alloc _ _ _)⟩
            have HP0 : Aside0 (OnSt w0 B nb bb ab ob all (.slice (some ad) all.length ca) (.slice A1 now.length c1) vb now best' wr.drew) := ⟨HP.out.next (below_drew (Below.refl _ _))⟩
            clear hSS l2 hx
            refine wp_region_noPanic ?_
            refine wp_region_held_drew (S := SS) (by kernel_rfl) (HSI.out _ (HSG.out _ HG0.out)) (fun hHeld => ?_)
            refine H_on 1 47 ?va1 rfl rfl (by kernel_rfl) (by kernel_rfl) (by kernel_rfl) (by rfl) ?ha1 hHeld ?ra1
            case ha1 => (intro w hSw; obtain ⟨s0, s1⟩ := HSO.out w hSw; go_simp <;> with_reducible rfl)
            simp only [Act.put, List.setIfInBounds_toArray, List.set_cons_zero, List.set_cons_succ]
            refine H_on 2 48 ?va2 rfl rfl (by kernel_rfl) (by kernel_rfl) (by kernel_rfl) (by rfl) ?ha2 hHeld ?ra2
            case ha2 => (intro w hSw; obtain ⟨s0, s1⟩ := HSO.out w hSw; go_simp <;> with_reducible rfl)
            simp only [Act.put, List.setIfInBounds_toArray, List.set_cons_zero, List.set_cons_succ]
            refine H_on 3 49 ?va3 rfl rfl (by kernel_rfl) (by kernel_rfl) (by kernel_rfl) (by rfl) ?ha3 hHeld ?ra3
            case ha3 => (intro w hSw; obtain ⟨s0, s1⟩ := HSO.out w hSw; go_simp <;> with_reducible rfl)
            simp only [Act.put, List.setIfInBounds_toArray, List.set_cons_zero, List.set_cons_succ]
            refine H_on 4 50 ?va4 rfl rfl (by kernel_rfl) (by kernel_rfl) (by kernel_rfl) (by rfl) ?ha4 hHeld ?ra4
            case ha4 => (intro w hSw; obtain ⟨s0, s1⟩ := HSO.out w hSw; go_simp <;> with_reducible rfl)
            simp only [Act.put, List.setIfInBounds_toArray, List.set_cons_zero, List.set_cons_succ]
            obtain ⟨l0, lf0⟩ := cells1 HP0.out.cn
            have HPB := Aside0.mk (HP0.out.next (below_alloc (Below.refl _ _) (.cells #[.slice (some ⟨g, 0, none⟩) b.length c] 28)))
            obtain ⟨l0b, lf0b⟩ := cells1 HPB.out.cn
            refine wpAnyH_ready (rs := [0, 5]) (by kernel_rfl) (by simp) ?_
            refine AllReadyH.cons rfl (fun K' hK' => ?_) (AllReadyH.cons rfl (fun K' hK' => ?_) AllReadyH.nil)
            · go_simp
              refine hK'.out _ _ (HSI.out _ (HSG.out _ HG0.out)) (fun hHeld => ?_)
              clear hK' K'
              try simp only [Act.put, List.setIfInBounds_toArray, List.set_cons_zero, List.set_cons_succ]
              refine wpAnyH_ready (rs := [5]) (by kernel_rfl) (by simp) ?_
              refine AllReadyH.cons rfl (fun K' hK' => ?_) AllReadyH.nil
              go_simp
              refine hK'.out _ _ (HSI.out _ (HSG.out _ HG1.out)) (fun hHeld => ?_)
              clear hK' K'
              try simp only [Act.put, List.setIfInBounds_toArray, List.set_cons_zero, List.set_cons_succ]
              refine wpAnyH_ready (rs := [6]) (by kernel_rfl) (by simp) ?_
              refine AllReadyH.cons rfl (fun K' hK' => ?_) AllReadyH.nil
              refine Kd.R_append_step kR (w0 := wr.drew) B rfl (.tmp 46) (.tmp 51) 53 28 (.slice none 0 0) 24 rfl Try.underlying53 info28 rfl (by decide) (by decide) (.slice A1 now.length c1) now ((g, c), b) [encR ((g, c), b)] (fun _ => True) (fun _ => False) rfl rfl rfl (fun _ hk => hk.elim) (fun _ _ => trivial) HP0.out.rn (Below.refl _ _) HP0.out.sz.1 (by omega) ?_
              intro v4 w4 ho _ hg4 hat
              have hgr := HG0.out.trans hg4
              obtain ⟨l4, lf4⟩ := cells1 ((hg4.block nb (blk_lt HP0.out.cn) (typed_ne HP0.out.rn HP0.out.cn (by decide))).trans HP0.out.cn)
              obtain ⟨A4, c4, hv4, _, _⟩ := Kd.R_reads ho
              rw [show (now ++ [((g, c), b)]).length = now.length + 1 from by simp] at hv4
              subst hv4
              have HP5 := Aside0.mk (HP0.out.store hg4 ho hat fun x hx => by rcases List.mem_append.1 hx with h | h; exact HP.out.ns x h; rw [List.mem_singleton.1 h]; exact HMEM.out)
              refine hK'.out _ _ (HSI.out _ (HSG.out _ hgr)) (fun hHeld => ?_)
              clear hK' K' ho hg4 hat hgr l0 lf0 l0b lf0b
              try simp only [Act.put, List.setIfInBounds_toArray, List.set_cons_zero, List.set_cons_succ]
              refine wpAnyH_ready (rs := [7]) (by kernel_rfl) (by simp) ?_
              refine AllReadyH.cons rfl (fun K' hK' => ?_) AllReadyH.nil
              go_simp
              refine hK' _ _ (HSI.out _ (HSP.out _ _ HP5.out)) (fun hHeld => ?_)
              clear hK' K'
              try simp only [Act.put]
              refine wpAnyH_done (by kernel_rfl) ?_ _
              refine NoPanic.normal ?_
              obtain ⟨W5, hW5⟩ : ∃ W5, W5 = w4.setCell ⟨nb, 0, none⟩ (.slice A4 (now.length + 1) c4) := ⟨_, rfl⟩
              rw [← hW5] at HP5 ⊢
              clear hW5 l4 lf4 HSG HSP HSI HSO HG0 HG1 HP0 HPB HP
              obtain ⟨lo', _⟩ := cells1 HP5.out.co
              have lo : W5.cell? ⟨ob, 0, none⟩ = some (.func (.func 70) #[] #[.pointer (some ⟨nb, 0, none⟩), .pointer (some ⟨bb, 0, none⟩), .pointer (some ⟨ab, 0, none⟩), .pointer (some ⟨ob, 0, none⟩)]) := lo'
              clear lo'
              have eg := enters70
              go_wp2_with (go_at_fn 70; go_must (refine (HREC.out _ _ HP5.out).mono ?_; rintro e w7 ⟨rfl, vn7, vb7, h7⟩; obtain ⟨A7, c7, hv7, hc7, _⟩ := Kd.R_reads h7.rn; rw [show (now ++ [((g, c), b)]).length = now.length + 1 from by simp] at hv7 hc7; subst hv7; obtain ⟨l7, lf7⟩ := cells1 h7.cn; have HP7 := Aside0.mk h7; clear h7 lo))
              go_roundg (all.length - (k + 1))
              case measure => omega
              case rel => exact ⟨k + 1, _, vb7, Y, by omega, by omega, by omega, by go_num, ⟨HP7.out.cut (m := now.length) (by simp) (by simp)⟩, HNEXT⟩
            · go_simp
              refine hK'.out _ _ (HSI.out _ (HSG.out _ HG1.out)) (fun hHeld => ?_)
              clear hK' K'
              try simp only [Act.put, List.setIfInBounds_toArray, List.set_cons_zero, List.set_cons_succ]
              obtain ⟨WA, hWA⟩ : ∃ WA, WA = wr.drew.alloc (.cells #[.slice (some ⟨g, 0, none⟩) b.length c] 28) := ⟨_, rfl⟩
              change wpAnyH _ _ _ _ _ _ _ _ (wr.drew.alloc (.cells #[.slice (some ⟨g, 0, none⟩) b.length c] 28))
              rw [← hWA] at l0b lf0b HG1 ⊢
              have HWA := Aside0.mk hWA
              clear hWA
              refine wpAnyH_ready (rs := [0]) (by kernel_rfl) (by simp) ?_
              refine AllReadyH.cons rfl (fun K' hK' => ?_) AllReadyH.nil
              go_simp
              refine hK'.out _ _ (HSI.out _ (HSG.out _ HG1.out)) (fun hHeld => ?_)
              rw [HWA.out] at HG1 ⊢
              clear HWA
              clear hK' K'
              try simp only [Act.put, List.setIfInBounds_toArray, List.set_cons_zero, List.set_cons_succ]
              refine wpAnyH_ready (rs := [6]) (by kernel_rfl) (by simp) ?_
              refine AllReadyH.cons rfl (fun K' hK' => ?_) AllReadyH.nil
              refine Kd.R_append_step kR (w0 := wr.drew) B rfl (.tmp 46) (.tmp 51) 53 28 (.slice none 0 0) 24 rfl Try.underlying53 info28 rfl (by decide) (by decide) (.slice A1 now.length c1) now ((g, c), b) [encR ((g, c), b)] (fun _ => True) (fun _ => False) rfl rfl rfl (fun _ hk => hk.elim) (fun _ _ => trivial) HP0.out.rn (Below.refl _ _) HP0.out.sz.1 (by omega) ?_
              intro v4 w4 ho _ hg4 hat
              have hgr := HG0.out.trans hg4
              obtain ⟨l4, lf4⟩ := cells1 ((hg4.block nb (blk_lt HP0.out.cn) (typed_ne HP0.out.rn HP0.out.cn (by decide))).trans HP0.out.cn)
              obtain ⟨A4, c4, hv4, _, _⟩ := Kd.R_reads ho
              rw [show (now ++ [((g, c), b)]).length = now.length + 1 from by simp] at hv4
              subst hv4
              have HP5 := Aside0.mk (HP0.out.store hg4 ho hat fun x hx => by rcases List.mem_append.1 hx with h | h; exact HP.out.ns x h; rw [List.mem_singleton.1 h]; exact HMEM.out)
              refine hK'.out _ _ (HSI.out _ (HSG.out _ hgr)) (fun hHeld => ?_)
              clear hK' K' ho hg4 hat hgr l0 lf0 l0b lf0b
              try simp only [Act.put, List.setIfInBounds_toArray, List.set_cons_zero, List.set_cons_succ]
              refine wpAnyH_ready (rs := [7]) (by kernel_rfl) (by simp) ?_
              refine AllReadyH.cons rfl (fun K' hK' => ?_) AllReadyH.nil
              go_simp
              refine hK' _ _ (HSI.out _ (HSP.out _ _ HP5.out)) (fun hHeld => ?_)
              clear hK' K'
              try simp only [Act.put]
              refine wpAnyH_done (by kernel_rfl) ?_ _
              refine NoPanic.normal ?_
              obtain ⟨W5, hW5⟩ : ∃ W5, W5 = w4.setCell ⟨nb, 0, none⟩ (.slice A4 (now.length + 1) c4) := ⟨_, rfl⟩
              rw [← hW5] at HP5 ⊢
              clear hW5 l4 lf4 HSG HSP HSI HSO HG0 HG1 HP0 HPB HP
              obtain ⟨lo', _⟩ := cells1 HP5.out.co
              have lo : W5.cell? ⟨ob, 0, none⟩ = some (.func (.func 70) #[] #[.pointer (some ⟨nb, 0, none⟩), .pointer (some ⟨bb, 0, none⟩), .pointer (some ⟨ab, 0, none⟩), .pointer (some ⟨ob, 0, none⟩)]) := lo'
              clear lo'
              have eg := enters70
              go_wp2_with (go_at_fn 70; go_must (refine (HREC.out _ _ HP5.out).mono ?_; rintro e w7 ⟨rfl, vn7, vb7, h7⟩; obtain ⟨A7, c7, hv7, hc7, _⟩ := Kd.R_reads h7.rn; rw [show (now ++ [((g, c), b)]).length = now.length + 1 from by simp] at hv7 hc7; subst hv7; obtain ⟨l7, lf7⟩ := cells1 h7.cn; have HP7 := Aside0.mk h7; clear h7 lo))
              go_roundg (all.length - (k + 1))
              case measure => omega
              case rel => exact ⟨k + 1, _, vb7, Y, by omega, by omega, by omega, by go_num, ⟨HP7.out.cut (m := now.length) (by simp) (by simp)⟩, HNEXT⟩
      · have hklz : ¬ (k : Int) < (all.length : Int) := by omega
        obtain rfl : k = all.length := by omega
        have hfin : best' = Z := by rw [← HZ.out, Nat.sub_self]; rfl
        obtain ⟨l2, _⟩ := cells1 HP.out.ca
        go_wp2
        go_end0
        exact ⟨rfl, _, _, by rw [← hfin]; exact HP.out⟩
  · have hltz : ¬ (best.length : Int) < (now.length : Int) := by omega
    have HUP : Aside0 (updL now best = best) := ⟨by unfold updL; rw [if_neg hlt]⟩
    go_enter Try.func70, Try.ntmps70
    go_wp2
    go_step3
    go_wp2
    obtain ⟨W5, hW5⟩ : ∃ W5, W5 = W := ⟨_, rfl⟩
    have HL : Aside0 (∃ vb5, OnSt w0 B nb bb ab ob all (.slice Aa all.length ca) (.slice An now.length cn) vb5 now (updL now best) W5) := ⟨_, by rw [hW5, HUP.out]; exact HO.out⟩
    rw [← hW5]
    clear hW5 l0 l1 lf1 HUP HO HCN
    refine wp_label ?_
    go_wp2
    go_loopg [8, 9, 11, 32] all.length (fun gg v8 _ _ _ wr => ∃ (k : Nat) (vn vb : Value) (best' : List RowT), k ≤ all.length ∧ fr ≤ k ∧ all.length - k ≤ gg ∧ v8 = .int .i64 k ∧ Aside0 (OnSt w0 B nb bb ab ob all (.slice Aa all.length ca) vn vb now best' wr) ∧ Aside0 (lpB keyR all (all.length - k) used now best' = Z))
    case atStart =>
      obtain ⟨vb5, h5⟩ := HL.out
      exact ⟨fr, _, vb5, _, by omega, Nat.le_refl _, by omega, rfl, ⟨h5⟩, ⟨by rw [show all.length - fr = d by omega]; exact HZ.out⟩⟩
    case round =>
      clear HL HZ
      obtain ⟨k, vn, vb, best', hk, hfk, hgg, rfl, HP, HZ⟩ := hrel
      by_cases hkl : k < all.length
      · have hklz : (k : Int) < (all.length : Int) := by omega
        obtain ⟨hca, hca2, hCa⟩ := Kd.R_reads' HP.out.ra
        obtain ⟨ad, had, hx0⟩ := ReadsOf.at_ (Kd.reads_of_C (d := default) hCa) (k : Int) (by omega) (by omega)
        subst had
        rw [Int.toNat_natCast] at hx0
        have hrd : rdOf default all (k : Int) = all.getD k default := by simp [rdOf]
        rw [hrd] at hx0
        have hmem : all.getD k default ∈ all := getD_mem default hkl
        generalize hy : all.getD k default = y at hx0 hmem
        have HY := Aside0.mk hy
        have HMEM := Aside0.mk hmem
        obtain ⟨⟨g, c⟩, b⟩ := y
        have hx : wr.cell? (ad.add k) = some (.slice (some ⟨g, 0, none⟩) b.length c) := hx0
        have hok := HP.out.ok _ hmem
        have HRC : Aside0 (Kd.C (Kd.int .i64) wr (some ⟨g, 0, none⟩) b.length b) := ⟨hok.2.2.2.2⟩
        have hbl : b.length ≤ 1000 := hok.2.1
        have HB60 : Aside0 (∀ i ∈ b, 0 ≤ i ∧ i < 60) := ⟨HBD.out _ hmem⟩
        have HSTEP := Aside0.mk (lp_stepB hkl hy used now best')
        obtain ⟨l2, _⟩ := cells1 HP.out.ca
        clear hca hca2 hCa hx0 hrd hmem hy hok
        go_wp2
        go_loopg [9, 11, 32] b.length (fun g2 v9 _ v32 w2 => ∃ i : Nat, i ≤ b.length ∧ b.length - i ≤ g2 ∧ v32 = .int .i64 i ∧ v9 = .int .i64 ((used ||| setI (b.take i) : Nat) : Int) ∧ disjB used (b.take i) = true ∧ wr = w2)
        case atStart => exact ⟨0, Nat.zero_le _, by omega, rfl, by rw [List.take_zero]; show _ = Value.int .i64 ((used ||| 0 : Nat) : Int); rw [Nat.or_zero], rfl, rfl⟩
        case round =>
          obtain ⟨i, hi, hg2, rfl, rfl, hdj, rfl⟩ := hrel
          by_cases hil : i < b.length
          · have hilz : (i : Int) < (b.length : Int) := by omega
            obtain ⟨ad3, hr3, hx3⟩ := Kd.at_int HRC.out (i : Int) (by omega) (by omega)
            cases hr3
            rw [Int.toNat_natCast] at hx3
            have hrd3 : rd b (i : Int) = b.getD i 0 := by simp [rd]
            have hin := HB60.out _ (getD_mem 0 hil)
            obtain ⟨a, ha⟩ := Int.eq_ofNat_of_zero_le hin.1
            rw [hrd3, ha, show (⟨g, 0, none⟩ : Addr).add i = ⟨g, i, none⟩ by rw [add_at, Nat.zero_add]] at hx3
            have ha60 : a < 60 := by omega
            have hset := take_keyB hil ha
            have hd1 := disj_take (used := used) hil hdj
            rw [ha, Int.toNat_natCast] at hd1
            have HD1 := Aside0.mk hd1
            have hd2 := disj_no (used := used) hil
            rw [ha, Int.toNat_natCast] at hd2
            have HD2 := Aside0.mk hd2
            have HSET := Aside0.mk hset
            have hm60 := setIn_ltB HB60.out i
            have hbit := bit_ask (y := used) (k := a) (by omega) (by omega)
            clear hrd3 hin ha hset hd1 hd2 hdj
            cases htb : used.testBit a with
            | true =>
              rw [htb] at hbit
              have HNO := Aside0.mk (HD2.out htb)
              go_wp2
              go_roundg (all.length - (k + 1))
              case measure => omega
              case rel => exact ⟨k + 1, vn, vb, best', by omega, by omega, by omega, by go_num, HP, ⟨by rw [← HZ.out, HSTEP.out, HNO.out]; rfl⟩⟩
            | false =>
              rw [htb] at hbit HD1
              generalize hs : setI (b.take i) = m at hm60 HSET ⊢
              have HU := Aside0.mk (or_lt hu hm60)
              generalize hum : used ||| m = um at HU ⊢
              have HUM := Aside0.mk hum
              clear hum
              go_wp2
              go_roundg (b.length - (i + 1))
              case measure => omega
              case rel => exact ⟨i + 1, by omega, by omega, by go_num, by rw [HSET.out, ← Nat.or_assoc, HUM.out, ← or_two60 HU.out ha60, wrap64_two (by omega)], HD1.out, rfl⟩
          · have hilz : ¬ (i : Int) < (b.length : Int) := by omega
            obtain rfl : i = b.length := by omega
            rw [List.take_length] at hdj ⊢
            have HDJ := Aside0.mk hdj
            have hm60 := setIn_ltB HB60.out b.length
            rw [List.take_length] at hm60
            generalize hs : setI b = m at hm60 ⊢
            have HM := Aside0.mk hs
            clear hs hdj
            generalize hum : used ||| m = um
            have HUM := Aside0.mk hum
            have HU := Aside0.mk (show um < 2 ^ 60 by rw [← hum]; exact or_lt hu hm60)
            clear hum hm60
            obtain ⟨A1, c1, hv1, _, _⟩ := Kd.R_reads HP.out.rn
            subst hv1
            obtain ⟨Y, hYY⟩ : ∃ Y, lpB keyR all (all.length - (k + 1)) um (now ++ [((g, c), b)]) (updL (now ++ [((g, c), b)]) best') = Y := ⟨_, rfl⟩
            have HNEXT : Aside0 (lpB keyR all (all.length - (k + 1)) used now Y = Z) := ⟨by
              have := HSTEP.out
              try dsimp only at this
              rw [HDJ.out, if_pos rfl, HM.out, HUM.out, hYY] at this
              rw [← this]; exact HZ.out⟩
            have HREC : Aside0 (∀ V4 W6, OnSt w0 B nb bb ab ob all (.slice (some ad) all.length ca) V4 vb (now ++ [((g, c), b)]) best' W6 → Calls Try.prog 70 #[.int .i64 ((k : Int) + 1), .int .i64 um, .pointer (some ⟨nb, 0, none⟩), .pointer (some ⟨bb, 0, none⟩), .pointer (some ⟨ab, 0, none⟩), .pointer (some ⟨ob, 0, none⟩)] W6 (OnPost70 w0 B nb bb ab ob all (.slice (some ad) all.length ca) (now ++ [((g, c), b)]) Y)) := ⟨fun V4 W6 h6 => by
              have := HI.out (all.length - (k + 1)) (by omega) (k + 1) um (now ++ [((g, c), b)]) best' V4 vb W6 h6 (by omega) HU.out (by rw [List.length_append, List.length_singleton]; omega)
              rw [hYY, show ((k + 1 : Nat) : Int) = (k : Int) + 1 by omega] at this
              exact this⟩
            clear hYY
            go_wp2
            have HSG : Aside0 (∀ w', wr.grownBy w' (Value.slice A1 now.length c1).ownBlock → w'.cell? ⟨ab, 0, none⟩ = some (.slice (some ad) all.length ca) ∧ w'.cell? (ad.add k) = some (.slice (some ⟨g, 0, none⟩) b.length c)) := ⟨fun w' hg => HP.out.reads hg rfl rfl hkl HY.out⟩
            have HSP : Aside0 (∀ V W6, OnSt w0 B nb bb ab ob all (.slice (some ad) all.length ca) V vb (now ++ [((g, c), b)]) best' W6 → W6.cell? ⟨ab, 0, none⟩ = some (.slice (some ad) all.length ca) ∧ W6.cell? (ad.add k) = some (.slice (some ⟨g, 0, none⟩) b.length c)) := ⟨fun V W6 h => h.reads (World.grownBy.refl W6 _) rfl rfl hkl HY.out⟩
            obtain ⟨SS, hSS⟩ : ∃ SS : World → Prop, SS = (fun w' => w'.cell? ⟨ab, 0, none⟩ = some (.slice (some ad) all.length ca) ∧ w'.cell? (ad.add k) = some (.slice (some ⟨g, 0, none⟩) b.length c)) := ⟨_, rfl⟩
            have HSI : Aside0 (∀ w', (w'.cell? ⟨ab, 0, none⟩ = some (.slice (some ad) all.length ca) ∧ w'.cell? (ad.add k) = some (.slice (some ⟨g, 0, none⟩) b.length c)) → SS w') := ⟨fun w' h => by rw [hSS]; exact h⟩
            have HSO : Aside0 (∀ w', SS w' → w'.cell? ⟨ab, 0, none⟩ = some (.slice (some ad) all.length ca) ∧ w'.cell? (ad.add k) = some (.slice (some ⟨g, 0, none⟩) b.length c)) := ⟨fun w' h => by rw [hSS] at h; exact h⟩
            have HG0 : Aside0 (wr.grownBy wr.drew (Value.slice A1 now.length c1).ownBlock) := ⟨⟨rfl, rfl, rfl, Nat.le_refl _, fun _ _ _ => rfl⟩⟩
            have HG1 : Aside0 (wr.grownBy (wr.drew.alloc (.cells #[.slice (some ⟨g, 0, none⟩) b.length c] 28)) (Value.slice A1 now.length c1).ownBlock) := ⟨HG0.out.trans (World.grownBy_alloc _ _ _)⟩
            have HP0 : Aside0 (OnSt w0 B nb bb ab ob all (.slice (some ad) all.length ca) (.slice A1 now.length c1) vb now best' wr.drew) := ⟨HP.out.next (below_drew (Below.refl _ _))⟩
            clear hSS l2 hx
            refine wp_region_noPanic ?_
            refine wp_region_held_drew (S := SS) (by kernel_rfl) (HSI.out _ (HSG.out _ HG0.out)) (fun hHeld => ?_)
            refine H_on 1 47 ?vb1 rfl rfl (by kernel_rfl) (by kernel_rfl) (by kernel_rfl) (by rfl) ?hb1 hHeld ?rb1
            case hb1 => (intro w hSw; obtain ⟨s0, s1⟩ := HSO.out w hSw; go_simp <;> with_reducible rfl)
            simp only [Act.put, List.setIfInBounds_toArray, List.set_cons_zero, List.set_cons_succ]
            refine H_on 2 48 ?vb2 rfl rfl (by kernel_rfl) (by kernel_rfl) (by kernel_rfl) (by rfl) ?hb2 hHeld ?rb2
            case hb2 => (intro w hSw; obtain ⟨s0, s1⟩ := HSO.out w hSw; go_simp <;> with_reducible rfl)
            simp only [Act.put, List.setIfInBounds_toArray, List.set_cons_zero, List.set_cons_succ]
            refine H_on 3 49 ?vb3 rfl rfl (by kernel_rfl) (by kernel_rfl) (by kernel_rfl) (by rfl) ?hb3 hHeld ?rb3
            case hb3 => (intro w hSw; obtain ⟨s0, s1⟩ := HSO.out w hSw; go_simp <;> with_reducible rfl)
            simp only [Act.put, List.setIfInBounds_toArray, List.set_cons_zero, List.set_cons_succ]
            refine H_on 4 50 ?vb4 rfl rfl (by kernel_rfl) (by kernel_rfl) (by kernel_rfl) (by rfl) ?hb4 hHeld ?rb4
            case hb4 => (intro w hSw; obtain ⟨s0, s1⟩ := HSO.out w hSw; go_simp <;> with_reducible rfl)
            simp only [Act.put, List.setIfInBounds_toArray, List.set_cons_zero, List.set_cons_succ]
            obtain ⟨l0, lf0⟩ := cells1 HP0.out.cn
            have HPB := Aside0.mk (HP0.out.next (below_alloc (Below.refl _ _) (.cells #[.slice (some ⟨g, 0, none⟩) b.length c] 28)))
            obtain ⟨l0b, lf0b⟩ := cells1 HPB.out.cn
            refine wpAnyH_ready (rs := [0, 5]) (by kernel_rfl) (by simp) ?_
            refine AllReadyH.cons rfl (fun K' hK' => ?_) (AllReadyH.cons rfl (fun K' hK' => ?_) AllReadyH.nil)
            · go_simp
              refine hK'.out _ _ (HSI.out _ (HSG.out _ HG0.out)) (fun hHeld => ?_)
              clear hK' K'
              try simp only [Act.put, List.setIfInBounds_toArray, List.set_cons_zero, List.set_cons_succ]
              refine wpAnyH_ready (rs := [5]) (by kernel_rfl) (by simp) ?_
              refine AllReadyH.cons rfl (fun K' hK' => ?_) AllReadyH.nil
              go_simp
              refine hK'.out _ _ (HSI.out _ (HSG.out _ HG1.out)) (fun hHeld => ?_)
              clear hK' K'
              try simp only [Act.put, List.setIfInBounds_toArray, List.set_cons_zero, List.set_cons_succ]
              refine wpAnyH_ready (rs := [6]) (by kernel_rfl) (by simp) ?_
              refine AllReadyH.cons rfl (fun K' hK' => ?_) AllReadyH.nil
              refine Kd.R_append_step kR (w0 := wr.drew) B rfl (.tmp 46) (.tmp 51) 53 28 (.slice none 0 0) 24 rfl Try.underlying53 info28 rfl (by decide) (by decide) (.slice A1 now.length c1) now ((g, c), b) [encR ((g, c), b)] (fun _ => True) (fun _ => False) rfl rfl rfl (fun _ hk => hk.elim) (fun _ _ => trivial) HP0.out.rn (Below.refl _ _) HP0.out.sz.1 (by omega) ?_
              intro v4 w4 ho _ hg4 hat
              have hgr := HG0.out.trans hg4
              obtain ⟨l4, lf4⟩ := cells1 ((hg4.block nb (blk_lt HP0.out.cn) (typed_ne HP0.out.rn HP0.out.cn (by decide))).trans HP0.out.cn)
              obtain ⟨A4, c4, hv4, _, _⟩ := Kd.R_reads ho
              rw [show (now ++ [((g, c), b)]).length = now.length + 1 from by simp] at hv4
              subst hv4
              have HP5 := Aside0.mk (HP0.out.store hg4 ho hat fun x hx => by rcases List.mem_append.1 hx with h | h; exact HP.out.ns x h; rw [List.mem_singleton.1 h]; exact HMEM.out)
              refine hK'.out _ _ (HSI.out _ (HSG.out _ hgr)) (fun hHeld => ?_)
              clear hK' K' ho hg4 hat hgr l0 lf0 l0b lf0b
              try simp only [Act.put, List.setIfInBounds_toArray, List.set_cons_zero, List.set_cons_succ]
              refine wpAnyH_ready (rs := [7]) (by kernel_rfl) (by simp) ?_
              refine AllReadyH.cons rfl (fun K' hK' => ?_) AllReadyH.nil
              go_simp
              refine hK' _ _ (HSI.out _ (HSP.out _ _ HP5.out)) (fun hHeld => ?_)
              clear hK' K'
              try simp only [Act.put]
              refine wpAnyH_done (by kernel_rfl) ?_ _
              refine NoPanic.normal ?_
              obtain ⟨W5, hW5⟩ : ∃ W5, W5 = w4.setCell ⟨nb, 0, none⟩ (.slice A4 (now.length + 1) c4) := ⟨_, rfl⟩
              rw [← hW5] at HP5 ⊢
              clear hW5 l4 lf4 HSG HSP HSI HSO HG0 HG1 HP0 HPB HP
              obtain ⟨lo', _⟩ := cells1 HP5.out.co
              have lo : W5.cell? ⟨ob, 0, none⟩ = some (.func (.func 70) #[] #[.pointer (some ⟨nb, 0, none⟩), .pointer (some ⟨bb, 0, none⟩), .pointer (some ⟨ab, 0, none⟩), .pointer (some ⟨ob, 0, none⟩)]) := lo'
              clear lo'
              have eg := enters70
              go_wp2_with (go_at_fn 70; go_must (refine (HREC.out _ _ HP5.out).mono ?_; rintro e w7 ⟨rfl, vn7, vb7, h7⟩; obtain ⟨A7, c7, hv7, hc7, _⟩ := Kd.R_reads h7.rn; rw [show (now ++ [((g, c), b)]).length = now.length + 1 from by simp] at hv7 hc7; subst hv7; obtain ⟨l7, lf7⟩ := cells1 h7.cn; have HP7 := Aside0.mk h7; clear h7 lo))
              go_roundg (all.length - (k + 1))
              case measure => omega
              case rel => exact ⟨k + 1, _, vb7, Y, by omega, by omega, by omega, by go_num, ⟨HP7.out.cut (m := now.length) (by simp) (by simp)⟩, HNEXT⟩
            · go_simp
              refine hK'.out _ _ (HSI.out _ (HSG.out _ HG1.out)) (fun hHeld => ?_)
              clear hK' K'
              try simp only [Act.put, List.setIfInBounds_toArray, List.set_cons_zero, List.set_cons_succ]
              obtain ⟨WA, hWA⟩ : ∃ WA, WA = wr.drew.alloc (.cells #[.slice (some ⟨g, 0, none⟩) b.length c] 28) := ⟨_, rfl⟩
              change wpAnyH _ _ _ _ _ _ _ _ (wr.drew.alloc (.cells #[.slice (some ⟨g, 0, none⟩) b.length c] 28))
              rw [← hWA] at l0b lf0b HG1 ⊢
              have HWA := Aside0.mk hWA
              clear hWA
              refine wpAnyH_ready (rs := [0]) (by kernel_rfl) (by simp) ?_
              refine AllReadyH.cons rfl (fun K' hK' => ?_) AllReadyH.nil
              go_simp
              refine hK'.out _ _ (HSI.out _ (HSG.out _ HG1.out)) (fun hHeld => ?_)
              rw [HWA.out] at HG1 ⊢
              clear HWA
              clear hK' K'
              try simp only [Act.put, List.setIfInBounds_toArray, List.set_cons_zero, List.set_cons_succ]
              refine wpAnyH_ready (rs := [6]) (by kernel_rfl) (by simp) ?_
              refine AllReadyH.cons rfl (fun K' hK' => ?_) AllReadyH.nil
              refine Kd.R_append_step kR (w0 := wr.drew) B rfl (.tmp 46) (.tmp 51) 53 28 (.slice none 0 0) 24 rfl Try.underlying53 info28 rfl (by decide) (by decide) (.slice A1 now.length c1) now ((g, c), b) [encR ((g, c), b)] (fun _ => True) (fun _ => False) rfl rfl rfl (fun _ hk => hk.elim) (fun _ _ => trivial) HP0.out.rn (Below.refl _ _) HP0.out.sz.1 (by omega) ?_
              intro v4 w4 ho _ hg4 hat
              have hgr := HG0.out.trans hg4
              obtain ⟨l4, lf4⟩ := cells1 ((hg4.block nb (blk_lt HP0.out.cn) (typed_ne HP0.out.rn HP0.out.cn (by decide))).trans HP0.out.cn)
              obtain ⟨A4, c4, hv4, _, _⟩ := Kd.R_reads ho
              rw [show (now ++ [((g, c), b)]).length = now.length + 1 from by simp] at hv4
              subst hv4
              have HP5 := Aside0.mk (HP0.out.store hg4 ho hat fun x hx => by rcases List.mem_append.1 hx with h | h; exact HP.out.ns x h; rw [List.mem_singleton.1 h]; exact HMEM.out)
              refine hK'.out _ _ (HSI.out _ (HSG.out _ hgr)) (fun hHeld => ?_)
              clear hK' K' ho hg4 hat hgr l0 lf0 l0b lf0b
              try simp only [Act.put, List.setIfInBounds_toArray, List.set_cons_zero, List.set_cons_succ]
              refine wpAnyH_ready (rs := [7]) (by kernel_rfl) (by simp) ?_
              refine AllReadyH.cons rfl (fun K' hK' => ?_) AllReadyH.nil
              go_simp
              refine hK' _ _ (HSI.out _ (HSP.out _ _ HP5.out)) (fun hHeld => ?_)
              clear hK' K'
              try simp only [Act.put]
              refine wpAnyH_done (by kernel_rfl) ?_ _
              refine NoPanic.normal ?_
              obtain ⟨W5, hW5⟩ : ∃ W5, W5 = w4.setCell ⟨nb, 0, none⟩ (.slice A4 (now.length + 1) c4) := ⟨_, rfl⟩
              rw [← hW5] at HP5 ⊢
              clear hW5 l4 lf4 HSG HSP HSI HSO HG0 HG1 HP0 HPB HP
              obtain ⟨lo', _⟩ := cells1 HP5.out.co
              have lo : W5.cell? ⟨ob, 0, none⟩ = some (.func (.func 70) #[] #[.pointer (some ⟨nb, 0, none⟩), .pointer (some ⟨bb, 0, none⟩), .pointer (some ⟨ab, 0, none⟩), .pointer (some ⟨ob, 0, none⟩)]) := lo'
              clear lo'
              have eg := enters70
              go_wp2_with (go_at_fn 70; go_must (refine (HREC.out _ _ HP5.out).mono ?_; rintro e w7 ⟨rfl, vn7, vb7, h7⟩; obtain ⟨A7, c7, hv7, hc7, _⟩ := Kd.R_reads h7.rn; rw [show (now ++ [((g, c), b)]).length = now.length + 1 from by simp] at hv7 hc7; subst hv7; obtain ⟨l7, lf7⟩ := cells1 h7.cn; have HP7 := Aside0.mk h7; clear h7 lo))
              go_roundg (all.length - (k + 1))
              case measure => omega
              case rel => exact ⟨k + 1, _, vb7, Y, by omega, by omega, by omega, by go_num, ⟨HP7.out.cut (m := now.length) (by simp) (by simp)⟩, HNEXT⟩
      · have hklz : ¬ (k : Int) < (all.length : Int) := by omega
        obtain rfl : k = all.length := by omega
        have hfin : best' = Z := by rw [← HZ.out, Nat.sub_self]; rfl
        obtain ⟨l2, _⟩ := cells1 HP.out.ca
        go_wp2
        go_end0
        exact ⟨rfl, _, _, by rw [← hfin]; exact HP.out⟩
theorem on70_all (hal : all.length ≤ 100000) (hbd : ∀ x ∈ all, ∀ i ∈ x.2, 0 ≤ i ∧ i < 60) (d : Nat) : OnSaid70 w0 B nb bb ab ob all vall d := Nat.strongRecOn d fun d ih => on70_step hal hbd d ih
end
end Go.Proofs.Ytaegldcifhgnmaa.A

/- Apart: the map's lists are collected: what the memory holds. -/
namespace Go.Proofs.Ytaegldcifhgnmaa.A
open Go.RowKit Go.Proofs.YtaegldcifhgnmaaW.PrintWords Go.Proofs.YtaegldcifhgnmaaW.PrintMore

theorem first_start (W : World) : FirstIs (W.heap.size + 1) W.heap.size (fun _ => none) (fun k => k = W.heap.size ∨ k = W.heap.size + 1) ((W.alloc (.map #[] 0)).alloc (.cells #[.map (some W.heap.size)] 76)) := by
  have h1 := heap_alloc_new (W.alloc (.map #[] 0)) (.cells #[.map (some W.heap.size)] 76)
  rw [show (W.alloc (.map #[] 0)).heap.size = W.heap.size + 1 by simp] at h1
  refine ⟨h1, .inr rfl, .inl rfl, by omega, fun k hk => by rcases hk with rfl | rfl <;> simp <;> omega, .map [], ?_, fun kl h => (by cases h), fun k b h => (by cases h)⟩
  exact owns_tight (World.ownsMap.alloc (World.ownsMap_made W Try.prog 3 RV) _)

structure CollSt (W0 : World) (mb n : Nat) (D : DU) (f : Nat → Option (List Int)) (left : Lit → Bool) (cnt : Nat) (v : Value) (ks : List Nat) (xs : List RowT) (W : World) : Prop where
  bl : Below W0.heap.size W0 W
  cx : W.heap[W0.heap.size]? = some (.cells #[v] 53 (0, 0))
  rx : kR.R 28 W (W0.heap.size + 1) (fun _ => True) v xs
  rg : W.ranges Try.prog 3 RV mb (W0.heap.size + 1) n D left cnt
  lt : mb < W0.heap.size
  lh : ∀ kl, left kl = true → Maps.has D kl = true
  nd : ks.Nodup
  me : ks.map f = xs.map (fun x => some x.2)
  kl : ∀ k ∈ ks, left (.int .i64 (k : Int)) = false
  al : ∀ k, f k ≠ none → left (.int .i64 (k : Int)) = false → k ∈ ks
  ok : ∀ x ∈ xs, RowOk W x
  ns : ∀ x ∈ xs, x.1.1 < W0.heap.size

section
variable {W0 W W1 : World} {mb n cnt cnt' : Nat} {D : DU} {f : Nat → Option (List Int)} {left : Lit → Bool} {v v1 : Value} {ks : List Nat} {xs : List RowT}
theorem iter_ne {e : Nat} {r : Nat} {base : Nat} (hr : W.ranges Try.prog 3 RV mb r n D left cnt) (h : kR.R e W base (fun _ => True) v xs) : some r ≠ v.ownBlock := fun e1 => by
  obtain ⟨cs', h1⟩ := Kd.R_typed h r e1.symm
  obtain ⟨es, clock, since, seen, c0, h2⟩ := hr
  have h3 : W.heap[r]? = some (.mapIter (some mb) since seen c0) := by simp_all
  rw [h3] at h1
  cases h1
theorem CollSt.big (h : CollSt W0 mb n D f left cnt v ks xs W) : W0.heap.size + 1 < W.heap.size := h.rg.lt
/-- An entry has come. -/
theorem CollSt.came (h : CollSt W0 mb n D f left cnt v ks xs W) {kl : Lit} (hg : W.grownBy W1 (some (W0.heap.size + 1))) (hrg : W1.ranges Try.prog 3 RV mb (W0.heap.size + 1) n D (fun z => left z && !z.sameKey kl) cnt') :
    Below W0.heap.size W0 W1 ∧ W1.heap[W0.heap.size]? = some (.cells #[v] 53 (0, 0)) ∧ kR.R 28 W1 (W0.heap.size + 1) (fun _ => True) v xs ∧ (∀ x ∈ xs, RowOk W1 x) ∧ W0.heap.size + 1 < W1.heap.size := by
  have hb := h.big
  have hk : ∀ k, k < W.heap.size → k ≠ W0.heap.size + 1 → W1.heap[k]? = W.heap[k]? := fun k hk hne => hg.block k hk fun e => hne (by cases e; rfl)
  refine ⟨⟨hg.os.trans h.bl.os, hg.tape.trans h.bl.tape, hg.output.trans h.bl.output, Nat.le_trans h.bl.size hg.size, fun k hk' => (hk k (by omega) (by omega)).trans (h.bl.block k hk')⟩, (hk _ (by omega) (by omega)).trans h.cx, R_moved h.rx fun k hk' => hk k (Kd.R_lt h.rx k hk') fun e => iter_ne h.rg h.rx (by rw [hk', e]), fun x hx => (h.ok x hx).move (hk _ (h.ok x hx).lt (by have := h.ns x hx; omega)), hrg.lt⟩
/-- It is put behind the others. -/
theorem CollSt.put (h : CollSt W0 mb n D f left cnt v ks xs W) {k : Nat} (hlk : left (.int .i64 (k : Int)) = true) {W4 : World} {y : RowT} (hfk : f k = some y.2) (hy : RowOk W0 y)
    (hg : W.grownBy W1 (some (W0.heap.size + 1))) (hrg : W1.ranges Try.prog 3 RV mb (W0.heap.size + 1) n D (fun z => left z && !z.sameKey (.int .i64 (k : Int))) cnt')
    (hg4 : W1.grownBy W4 v.ownBlock) (hr4 : kR.R 28 W4 (W0.heap.size + 1) (fun _ => True) v1 (xs ++ [y])) :
    CollSt W0 mb n D f (fun z => left z && !z.sameKey (.int .i64 (k : Int))) cnt' v1 (ks ++ [k]) (xs ++ [y]) (W4.setCell ⟨W0.heap.size, 0, none⟩ v1) := by
  obtain ⟨hb1, hc1, hr1, hok1, hbig⟩ := h.came hg hrg
  have hp := setCell_parts W4 ⟨W0.heap.size, 0, none⟩ v1
  have hcell : ∀ j, j < W1.heap.size → some j ≠ v.ownBlock → j ≠ W0.heap.size → (W4.setCell ⟨W0.heap.size, 0, none⟩ v1).heap[j]? = W1.heap[j]? := fun j hj h1 h2 => (Below.heap_setCell _ _ _ _ h2).trans (hg4.block j hj h1)
  have hlow : ∀ j, j ≤ W0.heap.size → some j ≠ v.ownBlock := fun j hj e => by have := Kd.R_base hr1 j e.symm; omega
  have hb2 : Below W0.heap.size W0 (W4.setCell ⟨W0.heap.size, 0, none⟩ v1) := ⟨hp.1.trans (hg4.os.trans hb1.os), hp.2.1.trans (hg4.tape.trans hb1.tape), hp.2.2.1.trans (hg4.output.trans hb1.output), by rw [hp.2.2.2]; exact Nat.le_trans hb1.size hg4.size, fun j hj => (hcell j (by omega) (hlow j (by omega)) (by omega)).trans (hb1.block j hj)⟩
  have hne1 := iter_ne hrg hr1
  refine ⟨hb2, blk_set ((hg4.block _ (by omega) (hlow _ (Nat.le_refl _))).trans hc1) 0 _, R_moved hr4 fun j hj => Below.heap_setCell _ _ _ _ fun e => ?_, ?_, h.lt, fun kl hkl => h.lh kl (by simp at hkl; exact hkl.1), ?_, by rw [List.map_append, List.map_append, h.me, List.map_singleton, List.map_singleton, hfk], ?_, ?_, ?_, ?_⟩
  · have := Kd.R_base hr4 j hj
    have e' : j = W0.heap.size := e
    omega
  · have h1 : W4.ranges Try.prog 3 RV mb (W0.heap.size + 1) n D (fun z => left z && !z.sameKey (.int .i64 (k : Int))) cnt' := hrg.kept hg4 (hlow mb (by have := h.lt; omega)) hne1
    have h2 : W4.grownBy (W4.setCell ⟨W0.heap.size, 0, none⟩ v1) (some W0.heap.size) := ⟨hp.1, hp.2.1, hp.2.2.1, by rw [hp.2.2.2]; exact Nat.le_refl _, fun j _ hj => Below.heap_setCell _ _ _ _ fun e => hj (by rw [show j = W0.heap.size from e])⟩
    exact h1.kept h2 (fun e => by have := h.lt; cases e; omega) (fun e => by injection e with e; omega)
  · refine List.nodup_append.mpr ⟨h.nd, List.nodup_cons.mpr ⟨List.not_mem_nil, List.nodup_nil⟩, fun a ha b hb e => ?_⟩
    rw [List.mem_singleton] at hb
    have := h.kl a ha
    rw [e, hb, hlk] at this
    cases this
  · intro j hj
    rcases List.mem_append.1 hj with hj | hj
    · rw [h.kl j hj, Bool.false_and]
    · rw [List.mem_singleton.1 hj]
      by_cases he : (Lit.int .i64 (k : Int)).sameKey (.int .i64 (k : Int)) = true
      · rw [he]; simp
      · exact absurd (by simp [Lit.sameKey]) he
  · intro j hf hj
    by_cases e : j = k
    · exact List.mem_append.2 (.inr (by rw [e]; exact List.mem_singleton_self k))
    · rw [Maps.sameKey_ne (kl_ne e)] at hj
      exact List.mem_append.2 (.inl (h.al j hf (by simpa using hj)))
  · intro x hx
    rcases List.mem_append.1 hx with hx | hx
    · have hx1 := hok1 x hx
      exact hx1.move (hcell _ hx1.lt (fun e => by have := Kd.R_base hr1 _ e.symm; have := h.ns x hx; omega) (by have := h.ns x hx; omega))
    · rw [List.mem_singleton.1 hx]
      exact hy.move (hb2.block _ hy.lt)
  · intro x hx
    rcases List.mem_append.1 hx with hx | hx
    · exact h.ns x hx
    · rw [List.mem_singleton.1 hx]; exact hy.lt
theorem coll_start {cb : Nat} {S : Nat → Prop} {W5 : World} (h : FirstIs cb mb f S W0) (hD2 : ∀ k b, f k = some b → ∃ g c, k < 2 ^ 60 ∧ Maps.has D (.int .i64 (k : Int)) = true ∧ (∀ z, D.atKey (.int .i64 (k : Int)) z = hdD g b.length c) ∧ b ≠ [] ∧ b.length ≤ 1000 ∧ b.length ≤ c ∧ S g ∧ RowAt W0 g b)
    (hrg : W5.ranges Try.prog 3 RV mb (W0.alloc (.cells #[.slice none 0 0] 53)).heap.size n D (Maps.has D) cnt) (hg : (W0.alloc (.cells #[.slice none 0 0] 53)).grownBy W5 none) :
    CollSt W0 mb n D f (Maps.has D) cnt (.slice none 0 0) [] [] W5 := by
  rw [show (W0.alloc (.cells #[.slice none 0 0] 53)).heap.size = W0.heap.size + 1 by simp] at hrg
  have hb : Below W0.heap.size W0 W5 := by
    have h1 : Below W0.heap.size W0 (W0.alloc (.cells #[.slice none 0 0] 53)) := below_alloc (Below.refl _ _) _
    exact h1.trans ⟨hg.os, hg.tape, hg.output, hg.size, fun j hj => hg.block j (by simp; omega) (by simp)⟩
  refine ⟨hb, (hg.block W0.heap.size (by simp) (by simp)).trans (heap_alloc_new _ _), Kd.R_nil _ _ _ _ _, hrg, h.lt mb h.smb, fun _ h => h, List.nodup_nil, rfl, fun _ h => (by cases h), fun k hk hl => ?_, fun _ h => (by cases h), fun _ h => (by cases h)⟩
  obtain ⟨b, hb⟩ := Option.ne_none_iff_exists'.mp hk
  obtain ⟨_, _, _, h2, _⟩ := hD2 k b hb
  rw [h2] at hl
  cases hl
theorem CollSt.few (h : CollSt W0 mb n D f left cnt v ks xs W) {m : Nat} (hf : ∀ k, f k ≠ none → k < m) : xs.length ≤ m := by
  have h1 := nodup_short m ks h.nd fun k hk => hf k fun e => by
    have h2 : f k ∈ ks.map f := List.mem_map_of_mem hk
    rw [h.me, e] at h2
    obtain ⟨x, _, h3⟩ := List.mem_map.1 h2
    cases h3
  have := congrArg List.length h.me
  rw [List.length_map, List.length_map] at this
  omega
theorem CollSt.mem (h : CollSt W0 mb n D f left cnt v ks xs W) {x : RowT} (hx : x ∈ xs) : ∃ k ∈ ks, f k = some x.2 := by
  have h2 : some x.2 ∈ xs.map (fun x : RowT => some x.2) := List.mem_map_of_mem (f := fun x : RowT => some x.2) hx
  rw [← h.me] at h2
  obtain ⟨k, h3, h4⟩ := List.mem_map.1 h2
  exact ⟨k, h3, h4⟩
theorem CollSt.fin (h : CollSt W0 mb n D f left cnt v ks xs W) (hl : ∀ kl, left kl = false) (k : Nat) : k ∈ ks ↔ f k ≠ none := by
  refine ⟨fun hk e => ?_, fun hf => h.al k hf (hl _)⟩
  have h2 : f k ∈ ks.map f := List.mem_map_of_mem hk
  rw [h.me, e] at h2
  obtain ⟨x, _, h3⟩ := List.mem_map.1 h2
  cases h3
/-- Behind the sort. -/
theorem CollSt.sorted (h : CollSt W0 mb n D f left cnt v ks xs W) {W6 : World} {ys : List RowT} (hp : ys.Perm xs) (hg : W.grownBy W6 v.ownBlock) :
    W6.heap[W0.heap.size]? = some (.cells #[v] 53 (0, 0)) ∧ (∀ x ∈ ys, RowOk W6 x) ∧ Below W0.heap.size W0 W6 := by
  have hb := h.big
  have hlow : ∀ j, j ≤ W0.heap.size → some j ≠ v.ownBlock := fun j hj e => by have := Kd.R_base h.rx j e.symm; omega
  refine ⟨(hg.block _ (by omega) (hlow _ (Nat.le_refl _))).trans h.cx, fun x hx => ?_, ⟨hg.os.trans h.bl.os, hg.tape.trans h.bl.tape, hg.output.trans h.bl.output, Nat.le_trans h.bl.size hg.size, fun j hj => (hg.block j (by omega) (hlow j (by omega))).trans (h.bl.block j hj)⟩⟩
  have hx' := hp.mem_iff.1 hx
  exact (h.ok x hx').move (hg.block _ (h.ok x hx').lt (hlow _ (by have := h.ns x hx'; omega)))
/-- What a new entry is. -/
theorem new_entry {S : Nat → Prop} {c : Value} {kl : Lit} {y : DU × List MemPlace} (hD1 : ∀ kl, Maps.has D kl = true → ∃ k : Nat, k < 2 ^ 60 ∧ kl = .int .i64 (k : Int) ∧ f k ≠ none)
    (hD2 : ∀ k b, f k = some b → ∃ g c, k < 2 ^ 60 ∧ Maps.has D (.int .i64 (k : Int)) = true ∧ (∀ z, D.atKey (.int .i64 (k : Int)) z = hdD g b.length c) ∧ b ≠ [] ∧ b.length ≤ 1000 ∧ b.length ≤ c ∧ S g ∧ RowAt W0 g b)
    (hhas : Maps.has D kl = true) (hv : RV c = some y) (hat : ∀ zd, D.atKey kl zd = y.1) : ∃ (k : Nat) (z : RowT), kl = .int .i64 (k : Int) ∧ f k = some z.2 ∧ c = encR z ∧ RowOk W0 z := by
  obtain ⟨k, _, rfl, hf⟩ := hD1 kl hhas
  obtain ⟨b, hb⟩ := Option.ne_none_iff_exists'.mp hf
  obtain ⟨g, c', _, _, a3, a4, a5, a6, _, a8⟩ := hD2 k b hb
  refine ⟨k, ((g, c'), b), rfl, hb, ?_, a4, a5, a6, a8⟩
  obtain ⟨y1, y2⟩ := y
  have h1 := hat .nil
  rw [a3] at h1
  dsimp only at h1
  rw [← h1] at hv
  exact RV_hd hv
theorem on_start {w6 : World} {h0 : Nat} {ys : List RowT} (hc : w6.heap[h0]? = some (.cells #[v] 53 (0, 0))) (hr : kR.R 28 w6 (h0 + 1) (fun _ => True) v ys) (ho : ∀ x ∈ ys, RowOk w6 x) :
    OnSt (((w6.alloc (.cells #[.slice none 0 0] 53)).alloc (.cells #[.slice none 0 0] 53)).alloc (.cells #[onV70 (w6.heap.size + 1) w6.heap.size h0 (w6.heap.size + 1 + 1)] 83)) (h0 + 1) (w6.heap.size + 1) w6.heap.size h0 (w6.heap.size + 1 + 1) ys v (.slice none 0 0) (.slice none 0 0) [] []
      (((w6.alloc (.cells #[.slice none 0 0] 53)).alloc (.cells #[.slice none 0 0] 53)).alloc (.cells #[onV70 (w6.heap.size + 1) w6.heap.size h0 (w6.heap.size + 1 + 1)] 83)) := by
  have h0l := blk_lt hc
  have hb : Below w6.heap.size w6 (((w6.alloc (.cells #[.slice none 0 0] 53)).alloc (.cells #[.slice none 0 0] 53)).alloc (.cells #[onV70 (w6.heap.size + 1) w6.heap.size h0 (w6.heap.size + 1 + 1)] 83)) := below_alloc (below_alloc (below_alloc (Below.refl _ _) _) _) _
  refine ⟨Below.refl _ _, ?_, ?_, (hb.block _ h0l).trans hc, ?_, by omega, ⟨by simp; omega, by simp; omega⟩, Kd.R_nil _ _ _ _ _, Kd.R_nil _ _ _ _ _, Kd.R_below hr hb, fun k e => by simp [Value.ownBlock] at e, fun k _ e => by simp [Value.ownBlock] at e, fun x hx => (ho x hx).below hb, fun _ h => (by cases h), fun _ h => (by cases h)⟩
  · have := heap_alloc_new (w6.alloc (.cells #[.slice none 0 0] 53)) (.cells #[.slice none 0 0] 53)
    rw [show (w6.alloc (.cells #[.slice none 0 0] 53)).heap.size = w6.heap.size + 1 by simp] at this
    exact blk_alloc this _
  · exact blk_alloc (blk_alloc (heap_alloc_new _ _) _) _
  · have := heap_alloc_new ((w6.alloc (.cells #[.slice none 0 0] 53)).alloc (.cells #[.slice none 0 0] 53)) (.cells #[onV70 (w6.heap.size + 1) w6.heap.size h0 (w6.heap.size + 1 + 1)] 83)
    rw [show ((w6.alloc (.cells #[.slice none 0 0] 53)).alloc (.cells #[.slice none 0 0] 53)).heap.size = w6.heap.size + 1 + 1 by simp] at this
    exact this
end
end Go.Proofs.Ytaegldcifhgnmaa.A

/- The law package's own small functions and the reference's Ties, as the kit's print writes them. -/
namespace Go.Proofs.Ytaegldcifhgnmaa.B
open Go.Proofs.Ytaegldcifhgnmaa.A
open Go.RowKit Go.Proofs.YtaegldcifhgnmaaW.PrintWords Go.Proofs.YtaegldcifhgnmaaW.PrintLast Go.Proofs.YtaegldcifhgnmaaW.PrintMore
section
attribute [local go_sem] max2_int min2_int max_two min_two max_three min_three max_four min_four   -- for this text's walks alone
set_option linter.unusedVariables false
set_option linter.unusedSimpArgs false
def errW : Option Int → Value
  | none => .nilIface
  | some c => .iface 0 (.int .i64 c)
theorem errW_none : errW none = .nilIface := rfl
theorem errW_some (c : Int) : errW (some c) = .iface 0 (.int .i64 c) := rfl

/-! ### drovewaylaw09_few: function 16 -/
def drovewaylaw09_few.f (l0 : List (S39)) (l1 : List Int) : Option (Bool) := if (l0.length : Int) ≤ 60 then (some (decide ((l1.length : Int) ≤ 60))) else (some false)
set_option maxHeartbeats 8000000 in
set_option maxRecDepth 100000 in
theorem drovewaylaw09_few.calls (A0 : Option Addr) (c0 : Nat) (l0 : List (S39)) (A1 : Option Addr) (c1 : Nat) (l1 : List Int) (r : Bool) (w : World) (hr0 : Kd.C k39 w A0 l0.length l0) (hc0 : l0.length ≤ c0) (hr1 : Kd.C (Kd.int .i64) w A1 l1.length l1) (hc1 : l1.length ≤ c1) (h : drovewaylaw09_few.f l0 l1 = some r) :
    Calls Try.prog 16 #[.slice A0 l0.length c0, .slice A1 l1.length c1] w fun e w' => e = .returned (.bool r) ∧ Drawn0 w w' := by
  have HR0 := Aside0.mk hr0
  have HC0 := Aside0.mk hc0
  clear hr0 hc0
  have HR1 := Aside0.mk hr1
  have HC1 := Aside0.mk hc1
  clear hr1 hc1
  have H : (if (l0.length : Int) ≤ 60 then (some (decide ((l1.length : Int) ≤ 60))) else (some false)) = some r := h
  clear h
  by_cases c3 : (l0.length : Int) ≤ 60
  · rw [if_pos c3] at H
    have c3b0 : decide ((l0.length : Int) ≤ 60) = true := decide_eq_true c3
    have c3b1 : decide (l0.length ≤ 60) = true := decide_eq_true (by omega)
    clear c3
    obtain rfl := Option.some.inj H
    go_enter Try.func16, Try.ntmps16
    go_wp2
    go_ret
    exact ⟨by first | rfl | (simp; done) | (simp [*]; done), by repeat (first | exact Drawn0.refl _ | apply Drawn0.step)⟩
  · rw [if_neg c3] at H
    have c3b0 : decide ((l0.length : Int) ≤ 60) = false := decide_eq_false c3
    have c3b1 : decide (l0.length ≤ 60) = false := decide_eq_false (by omega)
    clear c3
    obtain rfl := Option.some.inj H
    go_enter Try.func16, Try.ntmps16
    go_wp2
    go_ret
    exact ⟨by first | rfl | (simp; done) | (simp [*]; done), by repeat (first | exact Drawn0.refl _ | apply Drawn0.step)⟩

-- by hand: function 18 (feuds_Sides)

-- by hand: function 20 (feuds_Ring)

/-! ### drovewaylaw09_same: function 22 -/
def drovewaylaw09_same.l0 : Nat → List Int → List Int → Int → Option (Bool)
  | 0, _, _, _ => none
  | k + 1, x0, x1, x5 => if x5 < (x0.length : Int) then (if 0 ≤ x5 then (if x5 < (x1.length : Int) then (if (rd x0 x5) = (rd x1 x5) then (drovewaylaw09_same.l0 k x0 x1 (wrap64 (x5 + 1))) else (some false)) else (none)) else (none)) else (some true)
def drovewaylaw09_same.f (k : Nat) (l0 : List Int) (l1 : List Int) : Option (Bool) := if (l0.length : Int) = (l1.length : Int) then (drovewaylaw09_same.l0 k l0 l1 0) else (some false)
theorem drovewaylaw09_same.mono_l : ∀ k, (∀ y0 y1 y2, LeO (drovewaylaw09_same.l0 k y0 y1 y2) (drovewaylaw09_same.l0 (k + 1) y0 y1 y2))
  | 0 => fun _ _ _ r h => by simp [drovewaylaw09_same.l0] at h
  | k + 1 => by
    have ih0 := drovewaylaw09_same.mono_l k
    · intro y0 y1 y2
      unfold drovewaylaw09_same.l0
      repeat' first
      | (with_reducible exact ih0 _ _ _)
      | (with_reducible exact LeO.refl _)
      | (with_reducible exact LeO.none _)
      | (with_reducible refine LeO.ite ?_ ?_)
      | (with_reducible refine LeO.bind ?_ (fun _ => ?_))
      | exact ih0 _ _ _
      | exact LeO.none _
      | refine LeO.ite ?_ ?_
      | refine LeO.bind ?_ (fun _ => ?_)
theorem drovewaylaw09_same.mono : ∀ a0 a1 k, LeO (drovewaylaw09_same.f k a0 a1) (drovewaylaw09_same.f (k + 1) a0 a1) := by
  intro a0 a1 k
  have ih0 := drovewaylaw09_same.mono_l k
  unfold drovewaylaw09_same.f
  repeat' first
      | (with_reducible exact ih0 _ _ _)
      | (with_reducible exact LeO.refl _)
      | (with_reducible exact LeO.none _)
      | (with_reducible refine LeO.ite ?_ ?_)
      | (with_reducible refine LeO.bind ?_ (fun _ => ?_))
      | exact ih0 _ _ _
      | exact LeO.none _
      | refine LeO.ite ?_ ?_
      | refine LeO.bind ?_ (fun _ => ?_)
set_option maxHeartbeats 8000000 in
set_option maxRecDepth 100000 in
theorem drovewaylaw09_same.calls (k : Nat) (A0 : Option Addr) (c0 : Nat) (l0 : List Int) (A1 : Option Addr) (c1 : Nat) (l1 : List Int) (r : Bool) (w : World) (hr0 : Kd.C (Kd.int .i64) w A0 l0.length l0) (hc0 : l0.length ≤ c0) (hr1 : Kd.C (Kd.int .i64) w A1 l1.length l1) (hc1 : l1.length ≤ c1) (h : drovewaylaw09_same.f k l0 l1 = some r) :
    Calls Try.prog 22 #[.slice A0 l0.length c0, .slice A1 l1.length c1] w fun e w' => e = .returned (.bool r) ∧ Drawn0 w w' := by
  have HR0 := Aside0.mk hr0
  have HC0 := Aside0.mk hc0
  clear hr0 hc0
  have HR1 := Aside0.mk hr1
  have HC1 := Aside0.mk hc1
  clear hr1 hc1
  have H : (if (l0.length : Int) = (l1.length : Int) then (drovewaylaw09_same.l0 k l0 l1 0) else (some false)) = some r := h
  clear h
  by_cases c3 : (l0.length : Int) = (l1.length : Int)
  · rw [if_pos c3] at H
    have c3b0 : ((l0.length : Int) == (l1.length : Int)) = true := beq_iff_eq.mpr c3
    have c3b1 : ((l0.length : Int) != (l1.length : Int)) = false := bne_eq_false_iff_eq.mpr c3
    have c3b2 : (l0.length == l1.length) = true := by first | simpa using c3 | (simp at c3 ⊢; omega)
    clear c3
    have H' := Aside0.mk H
    clear H
    go_enter Try.func22, Try.ntmps22
    go_wp2
    repeat (go_quiet (fail); try go_wp2)
    go_loopg [5] k (fun kq v5 w' => ∃ (x5_1 : Int), v5 = .int .i64 x5_1 ∧ Aside0 (drovewaylaw09_same.l0 kq l0 l1 x5_1 = some r) ∧ Aside0 (kq ≤ k) ∧ Drawn0 w w')
    case atStart => exact ⟨(0), (by first | rfl | (simp; done) | (simp [*]; done)), H', ⟨Nat.le_refl _⟩, by repeat (first | exact Drawn0.refl _ | apply Drawn0.step)⟩
    case round =>
      clear H'
      try clear c1
      try clear c2
      try clear p2
      try clear c3
      try clear c3b0
      try clear c3b1
      try clear c3b2
      obtain ⟨x5_1, rfl, HA, HK1, ⟨m1, rfl⟩⟩ := hrel
      cases gk with
      | zero => exact absurd HA.out (by simp [drovewaylaw09_same.l0])
      | succ k1 =>
        have H := HA.out
        clear HA
        simp only [drovewaylaw09_same.l0] at H
        by_cases c4 : x5_1 < (l0.length : Int)
        · rw [if_pos c4] at H
          have c4b0 : decide (x5_1 < (l0.length : Int)) = true := decide_eq_true c4
          clear c4
          by_cases c5 : 0 ≤ x5_1
          · rw [if_pos c5] at H
            have c5b0 : decide (0 ≤ x5_1) = true := decide_eq_true c5
            clear c5
            by_cases c6 : x5_1 < (l1.length : Int)
            · rw [if_pos c6] at H
              have c6b0 : decide (x5_1 < (l1.length : Int)) = true := decide_eq_true c6
              clear c6
              by_cases c7 : (rd l0 x5_1) = (rd l1 x5_1)
              · rw [if_pos c7] at H
                have c7b0 : ((rd l0 x5_1) == (rd l1 x5_1)) = true := beq_iff_eq.mpr c7
                have c7b1 : ((rd l0 x5_1) != (rd l1 x5_1)) = false := bne_eq_false_iff_eq.mpr c7
                clear c7
                have H' := Aside0.mk H
                clear H
                have p101 : 0 ≤ (x5_1 : Int) := of_decide_eq_true (by first | (with_reducible assumption) | assumption)
                have q101 : x5_1 < (l0.length : Int) := of_decide_eq_true (by first | (with_reducible assumption) | assumption)
                obtain ⟨ad101, e101, hx101_0⟩ := Kd.at_int HR0.out x5_1 p101 q101
                cases e101
                replace p101 := eq_true p101
                replace q101 := eq_true q101
                have p102 : 0 ≤ (x5_1 : Int) := of_decide_eq_true (by first | (with_reducible assumption) | assumption)
                have q102 : x5_1 < (l1.length : Int) := of_decide_eq_true (by first | (with_reducible assumption) | assumption)
                obtain ⟨ad102, e102, hx102_0⟩ := Kd.at_int HR1.out x5_1 p102 q102
                cases e102
                replace p102 := eq_true p102
                replace q102 := eq_true q102
                go_wp2
                repeat (go_quiet (fail); try go_wp2)
                go_roundg k1
                case measure => have := HK1.out; omega
                case rel => exact ⟨(wrap64 (x5_1 + 1)), (by first | rfl | (simp; done) | (simp [*]; done)), H', ⟨by have := HK1.out; omega⟩, by repeat (first | exact Drawn0.refl _ | apply Drawn0.step)⟩
              · rw [if_neg c7] at H
                have c7b0 : ((rd l0 x5_1) == (rd l1 x5_1)) = false := beq_eq_false_iff_ne.mpr c7
                have c7b1 : ((rd l0 x5_1) != (rd l1 x5_1)) = true := bne_iff_ne.mpr c7
                obtain rfl := Option.some.inj H
                have p101 : 0 ≤ (x5_1 : Int) := of_decide_eq_true (by first | (with_reducible assumption) | assumption)
                have q101 : x5_1 < (l0.length : Int) := of_decide_eq_true (by first | (with_reducible assumption) | assumption)
                obtain ⟨ad101, e101, hx101_0⟩ := Kd.at_int HR0.out x5_1 p101 q101
                cases e101
                replace p101 := eq_true p101
                replace q101 := eq_true q101
                have p102 : 0 ≤ (x5_1 : Int) := of_decide_eq_true (by first | (with_reducible assumption) | assumption)
                have q102 : x5_1 < (l1.length : Int) := of_decide_eq_true (by first | (with_reducible assumption) | assumption)
                obtain ⟨ad102, e102, hx102_0⟩ := Kd.at_int HR1.out x5_1 p102 q102
                cases e102
                replace p102 := eq_true p102
                replace q102 := eq_true q102
                go_wp2
                repeat (go_quiet (fail); try go_wp2)
                go_ret
                exact ⟨by first | rfl | (simp; done) | (simp [*]; done), by repeat (first | exact Drawn0.refl _ | apply Drawn0.step)⟩
            · rw [if_neg c6] at H
              exact absurd H (by simp)
          · rw [if_neg c5] at H
            exact absurd H (by simp)
        · rw [if_neg c4] at H
          have c4b0 : decide (x5_1 < (l0.length : Int)) = false := decide_eq_false c4
          clear c4
          obtain rfl := Option.some.inj H
          go_wp2
          repeat (go_quiet (fail); try go_wp2)
          go_ret
          exact ⟨by first | rfl | (simp; done) | (simp [*]; done), by repeat (first | exact Drawn0.refl _ | apply Drawn0.step)⟩
  · rw [if_neg c3] at H
    have c3b0 : ((l0.length : Int) == (l1.length : Int)) = false := beq_eq_false_iff_ne.mpr c3
    have c3b1 : ((l0.length : Int) != (l1.length : Int)) = true := bne_iff_ne.mpr c3
    have c3b2 : (l0.length == l1.length) = false := by first | simpa using c3 | (simp at c3 ⊢; omega)
    obtain rfl := Option.some.inj H
    go_enter Try.func22, Try.ntmps22
    go_wp2
    repeat (go_quiet (fail); try go_wp2)
    go_ret
    exact ⟨by first | rfl | (simp; done) | (simp [*]; done), by repeat (first | exact Drawn0.refl _ | apply Drawn0.step)⟩

-- by hand: function 25 (feuds_Least)

-- by hand: function 26 (feuds_Clans)

-- by hand: function 32 (feuds_Classes)

/-! ### drovewaylaw09_three: function 45 -/
def drovewaylaw09_three.f  : Option ((List (S39))) := some (([(⟨0, 1, true⟩ : S39), (⟨0, 2, true⟩ : S39), (⟨1, 2, true⟩ : S39)] : List (S39)))
set_option maxHeartbeats 8000000 in
set_option maxRecDepth 100000 in
theorem drovewaylaw09_three.calls  (r : List (S39)) (w : World) (h : drovewaylaw09_three.f  = some r) :
    Calls Try.prog 45 #[] w fun e w' => ∃ v0_ : Value, e = .returned (v0_) ∧ Kd.R k39 39 w' w.heap.size (fun _ => True) v0_ r ∧ Below w.heap.size w w' := by
  have hu39 := Try.underlying39
  have HB := Aside0.mk (Below.refl w.heap.size w)
  have H : (some (([(⟨0, 1, true⟩ : S39), (⟨0, 2, true⟩ : S39), (⟨1, 2, true⟩ : S39)] : List (S39)))) = some r := h
  clear h
  obtain ⟨y103, hy103⟩ : ∃ y_ : List (S39), y_ = (([(⟨0, 1, true⟩ : S39), (⟨0, 2, true⟩ : S39), (⟨1, 2, true⟩ : S39)] : List (S39))) := ⟨_, rfl⟩
  replace H : (some y103) = some r := by first | (rw [hy103]; with_reducible exact H) | (have H2_ := (Option.bind_some _ _).symm.trans H; rw [hy103]; with_reducible exact H2_) | (have H2_ := (Option.bind_some _ _).symm.trans H; with_reducible exact H2_) | with_reducible exact H | (rw [hy103]; exact H) | exact H
  have Ny103 := Aside0.mk hy103
  clear hy103
  obtain rfl := Option.some.inj H
  go_enter Try.func45, Try.ntmps45
  go_wp2_with (first | ((with_reducible refine gate_dst (N := 4) rfl ?_); refine Kd.R_lit k39 _ 39 ?hg (N := 4) ?hd (xs := ([(⟨0, 1, true⟩ : S39), (⟨0, 2, true⟩ : S39), (⟨1, 2, true⟩ : S39)] : List (S39))) (inner := [.int .i64 0, .int .i64 1, .bool true, .int .i64 0, .int .i64 2, .bool true, .int .i64 1, .int .i64 2, .bool true]) (ok := fun _ => True) (okp := fun _ => True) ?hr ?hp (fun _ hk => hk) trivial (Below.refl _ _) (Nat.le_refl _) (by simp) ?_; (case hd => rfl); (case hg => rfl); (case hr => first | (go_simp; done) | (go_simp; rfl)); (case hp => exact (Reps.c3 (show Kd.M k39 _ _ _ (⟨0, 1, true⟩ : S39) [.int .i64 0, .int .i64 1, .bool true] from (k39_mkM _ _ _ (⟨0, 1, true⟩ : S39) )) (Reps.c3 (show Kd.M k39 _ _ _ (⟨0, 2, true⟩ : S39) [.int .i64 0, .int .i64 2, .bool true] from (k39_mkM _ _ _ (⟨0, 2, true⟩ : S39) )) (Reps.c3 (show Kd.M k39 _ _ _ (⟨1, 2, true⟩ : S39) [.int .i64 1, .int .i64 2, .bool true] from (k39_mkM _ _ _ (⟨1, 2, true⟩ : S39) )) (Reps.none _ _))))); intro v104 w1 ho2 hb hg_ hnew_; clear hg_ hnew_; (first | rw [← Ny103.out] at ho2 | (simp only [Int.reduceToNat] at ho2; rw [← Ny103.out] at ho2)); have n0_ := Aside0.mk (Kd.R_lower ho2 (below_size (by repeat (first | (with_reducible first | exact HB.out | apply below_alloc | apply pw_below_drewN | apply below_drew1) | exact HB.out)))); have n1_ := Aside0.mk (below_step (by repeat (first | (with_reducible first | exact HB.out | apply below_alloc | apply pw_below_drewN | apply below_drew1) | exact HB.out)) hb); clear HB; have HO105 := n0_; have HB := n1_; clear n0_ n1_; clear hb ho2))
  go_ret
  exact ⟨_, by first | rfl | (simp [errW_none, errW_some] <;> rfl) | (simp [*, errW_none, errW_some] <;> rfl), by (with_reducible repeat (first | apply Kd.R_alloc | apply Kd.R_drewN | apply Kd.R_drew)); exact HO105.out, by repeat (first | (with_reducible first | exact HB.out | apply below_alloc | apply pw_below_drewN | apply below_drew1) | exact HB.out)⟩

-- NOT PRINTED: function 17 (drovewaylaw09_alive)

-- by hand: function 30 (feuds_Same)

/-! ### drovewayref09_Ties: function 24 -/
mutual
def drovewayref09_Ties.j0 : Nat → Int → List (S39) → Bool → Option (Int)
  | 0, _, _, _ => none
  | k + 1, x0, x1, x12 => if x12 = true then (some 2) else (if (x1.length : Int) > 20 then (some 3) else (drovewayref09_Ties.l0 k x0 x1 0))
def drovewayref09_Ties.l0 : Nat → Int → List (S39) → Int → Option (Int)
  | 0, _, _, _ => none
  | k + 1, x0, x1, x5 => if x5 < (x1.length : Int) then (if 0 ≤ x5 then (if ((rd_T39 x1 x5).f0) < 0 then (drovewayref09_Ties.j2 k x0 x1 x5 true) else (if ((rd_T39 x1 x5).f0) ≥ ((rd_T39 x1 x5).f1) then (drovewayref09_Ties.j2 k x0 x1 x5 true) else (drovewayref09_Ties.j2 k x0 x1 x5 (decide (((rd_T39 x1 x5).f1) ≥ x0))))) else (none)) else (some 0)
def drovewayref09_Ties.j2 : Nat → Int → List (S39) → Int → Bool → Option (Int)
  | 0, _, _, _, _ => none
  | k + 1, x0, x1, x5, x49 => if x49 = true then (some 2) else (drovewayref09_Ties.l1 k x0 x1 x5 0)
def drovewayref09_Ties.l1 : Nat → Int → List (S39) → Int → Int → Option (Int)
  | 0, _, _, _, _ => none
  | k + 1, x0, x1, x5, x6 => if x6 < x5 then (if 0 ≤ x6 then (if x6 < (x1.length : Int) then (if 0 ≤ x5 then (if x5 < (x1.length : Int) then (if ((rd_T39 x1 x6).f0) = ((rd_T39 x1 x5).f0) then (if ((rd_T39 x1 x6).f1) = ((rd_T39 x1 x5).f1) then (some 2) else (drovewayref09_Ties.l1 k x0 x1 x5 (wrap64 (x6 + 1)))) else (drovewayref09_Ties.l1 k x0 x1 x5 (wrap64 (x6 + 1)))) else (none)) else (none)) else (none)) else (none)) else (drovewayref09_Ties.l0 k x0 x1 (wrap64 (x5 + 1)))
end
def drovewayref09_Ties.f (k : Nat) (a0 : Int) (l1 : List (S39)) : Option (Int) := if a0 < 1 then (drovewayref09_Ties.j0 k a0 l1 true) else (drovewayref09_Ties.j0 k a0 l1 (decide (a0 > 8)))
theorem drovewayref09_Ties.mono_l : ∀ k, (∀ y0 y1 y2, LeO (drovewayref09_Ties.j0 k y0 y1 y2) (drovewayref09_Ties.j0 (k + 1) y0 y1 y2)) ∧ (∀ y0 y1 y2, LeO (drovewayref09_Ties.l0 k y0 y1 y2) (drovewayref09_Ties.l0 (k + 1) y0 y1 y2)) ∧ (∀ y0 y1 y2 y3, LeO (drovewayref09_Ties.j2 k y0 y1 y2 y3) (drovewayref09_Ties.j2 (k + 1) y0 y1 y2 y3)) ∧ (∀ y0 y1 y2 y3, LeO (drovewayref09_Ties.l1 k y0 y1 y2 y3) (drovewayref09_Ties.l1 (k + 1) y0 y1 y2 y3))
  | 0 => ⟨fun _ _ _ r h => by simp [drovewayref09_Ties.j0] at h, fun _ _ _ r h => by simp [drovewayref09_Ties.l0] at h, fun _ _ _ _ r h => by simp [drovewayref09_Ties.j2] at h, fun _ _ _ _ r h => by simp [drovewayref09_Ties.l1] at h⟩
  | k + 1 => by
    obtain ⟨ih0, ih1, ih2, ih3⟩ := drovewayref09_Ties.mono_l k
    refine ⟨?_, ?_, ?_, ?_⟩
    · intro y0 y1 y2
      unfold drovewayref09_Ties.j0
      repeat' first
      | (with_reducible exact ih0 _ _ _)
      | (with_reducible exact ih1 _ _ _)
      | (with_reducible exact ih2 _ _ _ _)
      | (with_reducible exact ih3 _ _ _ _)
      | (with_reducible exact LeO.refl _)
      | (with_reducible exact LeO.none _)
      | (with_reducible refine LeO.ite ?_ ?_)
      | (with_reducible refine LeO.bind ?_ (fun _ => ?_))
      | exact ih0 _ _ _
      | exact ih1 _ _ _
      | exact ih2 _ _ _ _
      | exact ih3 _ _ _ _
      | exact LeO.none _
      | refine LeO.ite ?_ ?_
      | refine LeO.bind ?_ (fun _ => ?_)
    · intro y0 y1 y2
      unfold drovewayref09_Ties.l0
      repeat' first
      | (with_reducible exact ih0 _ _ _)
      | (with_reducible exact ih1 _ _ _)
      | (with_reducible exact ih2 _ _ _ _)
      | (with_reducible exact ih3 _ _ _ _)
      | (with_reducible exact LeO.refl _)
      | (with_reducible exact LeO.none _)
      | (with_reducible refine LeO.ite ?_ ?_)
      | (with_reducible refine LeO.bind ?_ (fun _ => ?_))
      | exact ih0 _ _ _
      | exact ih1 _ _ _
      | exact ih2 _ _ _ _
      | exact ih3 _ _ _ _
      | exact LeO.none _
      | refine LeO.ite ?_ ?_
      | refine LeO.bind ?_ (fun _ => ?_)
    · intro y0 y1 y2 y3
      unfold drovewayref09_Ties.j2
      repeat' first
      | (with_reducible exact ih0 _ _ _)
      | (with_reducible exact ih1 _ _ _)
      | (with_reducible exact ih2 _ _ _ _)
      | (with_reducible exact ih3 _ _ _ _)
      | (with_reducible exact LeO.refl _)
      | (with_reducible exact LeO.none _)
      | (with_reducible refine LeO.ite ?_ ?_)
      | (with_reducible refine LeO.bind ?_ (fun _ => ?_))
      | exact ih0 _ _ _
      | exact ih1 _ _ _
      | exact ih2 _ _ _ _
      | exact ih3 _ _ _ _
      | exact LeO.none _
      | refine LeO.ite ?_ ?_
      | refine LeO.bind ?_ (fun _ => ?_)
    · intro y0 y1 y2 y3
      unfold drovewayref09_Ties.l1
      repeat' first
      | (with_reducible exact ih0 _ _ _)
      | (with_reducible exact ih1 _ _ _)
      | (with_reducible exact ih2 _ _ _ _)
      | (with_reducible exact ih3 _ _ _ _)
      | (with_reducible exact LeO.refl _)
      | (with_reducible exact LeO.none _)
      | (with_reducible refine LeO.ite ?_ ?_)
      | (with_reducible refine LeO.bind ?_ (fun _ => ?_))
      | exact ih0 _ _ _
      | exact ih1 _ _ _
      | exact ih2 _ _ _ _
      | exact ih3 _ _ _ _
      | exact LeO.none _
      | refine LeO.ite ?_ ?_
      | refine LeO.bind ?_ (fun _ => ?_)
theorem drovewayref09_Ties.mono : ∀ a0 a1 k, LeO (drovewayref09_Ties.f k a0 a1) (drovewayref09_Ties.f (k + 1) a0 a1) := by
  intro a0 a1 k
  obtain ⟨ih0, ih1, ih2, ih3⟩ := drovewayref09_Ties.mono_l k
  unfold drovewayref09_Ties.f
  repeat' first
      | (with_reducible exact ih0 _ _ _)
      | (with_reducible exact ih1 _ _ _)
      | (with_reducible exact ih2 _ _ _ _)
      | (with_reducible exact ih3 _ _ _ _)
      | (with_reducible exact LeO.refl _)
      | (with_reducible exact LeO.none _)
      | (with_reducible refine LeO.ite ?_ ?_)
      | (with_reducible refine LeO.bind ?_ (fun _ => ?_))
      | exact ih0 _ _ _
      | exact ih1 _ _ _
      | exact ih2 _ _ _ _
      | exact ih3 _ _ _ _
      | exact LeO.none _
      | refine LeO.ite ?_ ?_
      | refine LeO.bind ?_ (fun _ => ?_)
set_option maxHeartbeats 8000000 in
set_option maxRecDepth 100000 in
theorem drovewayref09_Ties.calls (k : Nat) (a0 : Int) (A1 : Option Addr) (c1 : Nat) (l1 : List (S39)) (r : Int) (w : World) (hr1 : Kd.C k39 w A1 l1.length l1) (hc1 : l1.length ≤ c1) (h : drovewayref09_Ties.f k a0 l1 = some r) :
    Calls Try.prog 24 #[.int .i64 a0, .slice A1 l1.length c1] w fun e w' => e = .returned (.int .i64 r) ∧ Drawn0 w w' := by
  have HR1 := Aside0.mk hr1
  have HC1 := Aside0.mk hc1
  clear hr1 hc1
  have H : (if a0 < 1 then (drovewayref09_Ties.j0 k a0 l1 true) else (drovewayref09_Ties.j0 k a0 l1 (decide (a0 > 8)))) = some r := h
  clear h
  have HC3 := Aside0.mk H
  clear H
  go_enter Try.func24, Try.ntmps24
  go_upto_region 1 with (fail)
  repeat (go_quiet (fail); go_upto_region 1 with (fail))
  go_cut [12] (fun v12 wc => ∃ (kq : Nat) (x12_2 : Bool), v12 = .bool x12_2 ∧ Aside0 (drovewayref09_Ties.j0 kq a0 l1 x12_2 = some r) ∧ Aside0 (kq ≤ k) ∧ Drawn0 w wc)
  case first =>
    have H := HC3.out
    clear HC3
    by_cases c4 : a0 < 1
    · rw [if_pos c4] at H
      have c4b0 : decide (a0 < 1) = true := decide_eq_true c4
      clear c4
      (first | rw [c4b0] | (simp only [i64_w, i32_w]; rw [c4b0]) | skip)
      have H' := Aside0.mk H
      clear H
      go_wp2
      repeat (go_quiet (fail); try go_wp2)
      go_meet
      case rel => exact ⟨_, (true), (by first | rfl | (simp; done) | (simp [*]; done)), H', ⟨by first | omega | exact Nat.le_refl _⟩, by repeat (first | exact Drawn0.refl _ | apply Drawn0.step)⟩
    · rw [if_neg c4] at H
      have c4b0 : decide (a0 < 1) = false := decide_eq_false c4
      clear c4
      (first | rw [c4b0] | (simp only [i64_w, i32_w]; rw [c4b0]) | skip)
      have H' := Aside0.mk H
      clear H
      go_wp2
      repeat (go_quiet (fail); try go_wp2)
      go_meet
      case rel => exact ⟨_, (decide (a0 > 8)), (by first | rfl | (simp; done) | (simp [*]; done)), H', ⟨by first | omega | exact Nat.le_refl _⟩, by repeat (first | exact Drawn0.refl _ | apply Drawn0.step)⟩
  case rest =>
    clear HC3
    try clear c1
    try clear c2
    try clear p2
    try clear c4
    try clear c4b0
    obtain ⟨kq, x12_2, rfl, HA, HJ2, ⟨mc2, rfl⟩⟩ := hcut
    cases kq with
    | zero => exact absurd HA.out (by simp [drovewayref09_Ties.j0])
    | succ kj2 =>
      have H := HA.out
      clear HA
      simp only [drovewayref09_Ties.j0] at H
      by_cases c5 : x12_2 = true
      · subst c5
        have H1 : (some 2) = some r := by rw [if_pos rfl] at H; exact H
        clear H
        have H := H1
        clear H1
        obtain rfl := Option.some.inj H
        go_wp2
        repeat (go_quiet (fail); try go_wp2)
        go_ret
        exact ⟨by first | rfl | (simp; done) | (simp [*]; done), by repeat (first | exact Drawn0.refl _ | apply Drawn0.step)⟩
      · replace c5 := Bool.eq_false_iff.mpr c5
        subst c5
        have H1 : (if (l1.length : Int) > 20 then (some 3) else (drovewayref09_Ties.l0 kj2 a0 l1 0)) = some r := by rw [if_neg (show ¬ (false = true) by decide)] at H; exact H
        clear H
        have H := H1
        clear H1
        by_cases c6 : (l1.length : Int) > 20
        · rw [if_pos c6] at H
          have c6b0 : decide (20 < (l1.length : Int)) = true := decide_eq_true c6
          have c6b1 : decide (20 < l1.length) = true := decide_eq_true (by omega)
          clear c6
          obtain rfl := Option.some.inj H
          go_wp2
          repeat (go_quiet (fail); try go_wp2)
          go_ret
          exact ⟨by first | rfl | (simp; done) | (simp [*]; done), by repeat (first | exact Drawn0.refl _ | apply Drawn0.step)⟩
        · rw [if_neg c6] at H
          have c6b0 : decide (20 < (l1.length : Int)) = false := decide_eq_false c6
          have c6b1 : decide (20 < l1.length) = false := decide_eq_false (by omega)
          clear c6
          have H' := Aside0.mk H
          clear H
          go_wp2
          repeat (go_quiet (fail); try go_wp2)
          go_loopg [5] kj2 (fun kq v5 w' => ∃ (x5_2 : Int), v5 = .int .i64 x5_2 ∧ Aside0 (drovewayref09_Ties.l0 kq a0 l1 x5_2 = some r) ∧ Aside0 (kq ≤ kj2) ∧ Drawn0 w w')
          case atStart => exact ⟨(0), (by first | rfl | (simp; done) | (simp [*]; done)), H', ⟨Nat.le_refl _⟩, by repeat (first | exact Drawn0.refl _ | apply Drawn0.step)⟩
          case round =>
            clear H'
            try clear c1
            try clear c2
            try clear p2
            try clear c4
            try clear c4b0
            try clear c5
            try clear c6
            try clear c6b0
            try clear c6b1
            try clear p2
            obtain ⟨x5_2, rfl, HA, HK2, ⟨m2, rfl⟩⟩ := hrel
            cases gk with
            | zero => exact absurd HA.out (by simp [drovewayref09_Ties.l0])
            | succ k2 =>
              have H := HA.out
              clear HA
              simp only [drovewayref09_Ties.l0] at H
              by_cases c7 : x5_2 < (l1.length : Int)
              · rw [if_pos c7] at H
                have c7b0 : decide (x5_2 < (l1.length : Int)) = true := decide_eq_true c7
                clear c7
                have HC8 := Aside0.mk H
                clear H
                go_upto_region 8 with (fail)
                repeat (go_quiet (fail); go_upto_region 8 with (fail))
                go_cut [49] (fun v49 wc => ∃ (kq : Nat) (x49_7 : Bool), v49 = .bool x49_7 ∧ Aside0 (drovewayref09_Ties.j2 kq a0 l1 x5_2 x49_7 = some r) ∧ Aside0 (kq ≤ k2) ∧ Drawn0 w wc)
                case first =>
                  have H := HC8.out
                  clear HC8
                  by_cases c9 : 0 ≤ x5_2
                  · rw [if_pos c9] at H
                    have c9b0 : decide (0 ≤ x5_2) = true := decide_eq_true c9
                    clear c9
                    (first | rw [c9b0] | (simp only [i64_w, i32_w]; rw [c9b0]) | skip)
                    by_cases c10 : ((rd_T39 l1 x5_2).f0) < 0
                    · rw [if_pos c10] at H
                      have c10b0 : decide (((rd_T39 l1 x5_2).f0) < 0) = true := decide_eq_true c10
                      clear c10
                      have H' := Aside0.mk H
                      clear H
                      have p155 : 0 ≤ (x5_2 : Int) := of_decide_eq_true (by first | (with_reducible assumption) | assumption)
                      have q155 : x5_2 < (l1.length : Int) := of_decide_eq_true (by first | (with_reducible assumption) | assumption)
                      obtain ⟨ad155, e155, hx155_0, hx155_1, hx155_2⟩ := at_T39 HR1.out x5_2 p155 q155
                      cases e155
                      replace p155 := eq_true p155
                      replace q155 := eq_true q155
                      go_wp2
                      repeat (go_quiet (fail); try go_wp2)
                      go_meet
                      case rel => exact ⟨_, (true), (by first | rfl | (simp; done) | (simp [*]; done)), H', ⟨by have := HJ2.out; have := HK2.out; first | omega | exact Nat.le_refl _⟩, by repeat (first | exact Drawn0.refl _ | apply Drawn0.step)⟩
                    · rw [if_neg c10] at H
                      have c10b0 : decide (((rd_T39 l1 x5_2).f0) < 0) = false := decide_eq_false c10
                      clear c10
                      by_cases c11 : ((rd_T39 l1 x5_2).f0) ≥ ((rd_T39 l1 x5_2).f1)
                      · rw [if_pos c11] at H
                        have c11b0 : decide (((rd_T39 l1 x5_2).f1) ≤ ((rd_T39 l1 x5_2).f0)) = true := decide_eq_true c11
                        clear c11
                        have H' := Aside0.mk H
                        clear H
                        have p155 : 0 ≤ (x5_2 : Int) := of_decide_eq_true (by first | (with_reducible assumption) | assumption)
                        have q155 : x5_2 < (l1.length : Int) := of_decide_eq_true (by first | (with_reducible assumption) | assumption)
                        obtain ⟨ad155, e155, hx155_0, hx155_1, hx155_2⟩ := at_T39 HR1.out x5_2 p155 q155
                        cases e155
                        replace p155 := eq_true p155
                        replace q155 := eq_true q155
                        have p156 : 0 ≤ (x5_2 : Int) := of_decide_eq_true (by first | (with_reducible assumption) | assumption)
                        have q156 : x5_2 < (l1.length : Int) := of_decide_eq_true (by first | (with_reducible assumption) | assumption)
                        obtain ⟨ad156, e156, hx156_0, hx156_1, hx156_2⟩ := at_T39 HR1.out x5_2 p156 q156
                        obtain rfl : ad155 = ad156 := (by injection e156)
                        replace p156 := eq_true p156
                        replace q156 := eq_true q156
                        have p157 : 0 ≤ (x5_2 : Int) := of_decide_eq_true (by first | (with_reducible assumption) | assumption)
                        have q157 : x5_2 < (l1.length : Int) := of_decide_eq_true (by first | (with_reducible assumption) | assumption)
                        obtain ⟨ad157, e157, hx157_0, hx157_1, hx157_2⟩ := at_T39 HR1.out x5_2 p157 q157
                        obtain rfl : ad155 = ad157 := (by injection e157)
                        replace p157 := eq_true p157
                        replace q157 := eq_true q157
                        go_wp2
                        repeat (go_quiet (fail); try go_wp2)
                        go_meet
                        case rel => exact ⟨_, (true), (by first | rfl | (simp; done) | (simp [*]; done)), H', ⟨by have := HJ2.out; have := HK2.out; first | omega | exact Nat.le_refl _⟩, by repeat (first | exact Drawn0.refl _ | apply Drawn0.step)⟩
                      · rw [if_neg c11] at H
                        have c11b0 : decide (((rd_T39 l1 x5_2).f1) ≤ ((rd_T39 l1 x5_2).f0)) = false := decide_eq_false c11
                        clear c11
                        have H' := Aside0.mk H
                        clear H
                        have p155 : 0 ≤ (x5_2 : Int) := of_decide_eq_true (by first | (with_reducible assumption) | assumption)
                        have q155 : x5_2 < (l1.length : Int) := of_decide_eq_true (by first | (with_reducible assumption) | assumption)
                        obtain ⟨ad155, e155, hx155_0, hx155_1, hx155_2⟩ := at_T39 HR1.out x5_2 p155 q155
                        cases e155
                        replace p155 := eq_true p155
                        replace q155 := eq_true q155
                        have p156 : 0 ≤ (x5_2 : Int) := of_decide_eq_true (by first | (with_reducible assumption) | assumption)
                        have q156 : x5_2 < (l1.length : Int) := of_decide_eq_true (by first | (with_reducible assumption) | assumption)
                        obtain ⟨ad156, e156, hx156_0, hx156_1, hx156_2⟩ := at_T39 HR1.out x5_2 p156 q156
                        obtain rfl : ad155 = ad156 := (by injection e156)
                        replace p156 := eq_true p156
                        replace q156 := eq_true q156
                        have p157 : 0 ≤ (x5_2 : Int) := of_decide_eq_true (by first | (with_reducible assumption) | assumption)
                        have q157 : x5_2 < (l1.length : Int) := of_decide_eq_true (by first | (with_reducible assumption) | assumption)
                        obtain ⟨ad157, e157, hx157_0, hx157_1, hx157_2⟩ := at_T39 HR1.out x5_2 p157 q157
                        obtain rfl : ad155 = ad157 := (by injection e157)
                        replace p157 := eq_true p157
                        replace q157 := eq_true q157
                        have p158 : 0 ≤ (x5_2 : Int) := of_decide_eq_true (by first | (with_reducible assumption) | assumption)
                        have q158 : x5_2 < (l1.length : Int) := of_decide_eq_true (by first | (with_reducible assumption) | assumption)
                        obtain ⟨ad158, e158, hx158_0, hx158_1, hx158_2⟩ := at_T39 HR1.out x5_2 p158 q158
                        obtain rfl : ad155 = ad158 := (by injection e158)
                        replace p158 := eq_true p158
                        replace q158 := eq_true q158
                        go_wp2
                        repeat (go_quiet (fail); try go_wp2)
                        go_meet
                        case rel => exact ⟨_, (decide (((rd_T39 l1 x5_2).f1) ≥ a0)), (by first | rfl | (simp; done) | (simp [*]; done)), H', ⟨by have := HJ2.out; have := HK2.out; first | omega | exact Nat.le_refl _⟩, by repeat (first | exact Drawn0.refl _ | apply Drawn0.step)⟩
                  · rw [if_neg c9] at H
                    exact absurd H (by simp)
                case rest =>
                  clear HC8
                  try clear c1
                  try clear p1
                  try clear q1
                  try clear hx1
                  try clear c2
                  try clear p2
                  try clear c4
                  try clear c4b0
                  try clear c5
                  try clear c6
                  try clear c6b0
                  try clear c6b1
                  try clear c7
                  try clear c7b0
                  try clear c9
                  try clear c9b0
                  try clear c10
                  try clear c10b0
                  try clear c11
                  try clear c11b0
                  try clear hx155_0
                  try clear hx155_1
                  try clear hx155_2
                  try clear hx156_0
                  try clear hx156_1
                  try clear hx156_2
                  try clear hx157_0
                  try clear hx157_1
                  try clear hx157_2
                  try clear hx158_0
                  try clear hx158_1
                  try clear hx158_2
                  try clear p155
                  try clear p156
                  try clear p157
                  try clear p158
                  try clear p2
                  try clear q155
                  try clear q156
                  try clear q157
                  try clear q158
                  obtain ⟨kq, x49_7, rfl, HA, HJ7, ⟨mc7, rfl⟩⟩ := hcut
                  cases kq with
                  | zero => exact absurd HA.out (by simp [drovewayref09_Ties.j2])
                  | succ kj7 =>
                    have H := HA.out
                    clear HA
                    simp only [drovewayref09_Ties.j2] at H
                    by_cases c12 : x49_7 = true
                    · subst c12
                      have H1 : (some 2) = some r := by rw [if_pos rfl] at H; exact H
                      clear H
                      have H := H1
                      clear H1
                      obtain rfl := Option.some.inj H
                      go_wp2
                      repeat (go_quiet (fail); try go_wp2)
                      go_ret
                      exact ⟨by first | rfl | (simp; done) | (simp [*]; done), by repeat (first | exact Drawn0.refl _ | apply Drawn0.step)⟩
                    · replace c12 := Bool.eq_false_iff.mpr c12
                      subst c12
                      have H1 : (drovewayref09_Ties.l1 kj7 a0 l1 x5_2 0) = some r := by rw [if_neg (show ¬ (false = true) by decide)] at H; exact H
                      clear H
                      have H := H1
                      clear H1
                      have H' := Aside0.mk H
                      clear H
                      go_wp2
                      repeat (go_quiet (fail); try go_wp2)
                      go_loopg [6] kj7 (fun kq v6 w' => ∃ (x6_4 : Int), v6 = .int .i64 x6_4 ∧ Aside0 (drovewayref09_Ties.l1 kq a0 l1 x5_2 x6_4 = some r) ∧ Aside0 (kq ≤ kj7) ∧ Drawn0 w w')
                      case atStart => exact ⟨(0), (by first | rfl | (simp; done) | (simp [*]; done)), H', ⟨Nat.le_refl _⟩, by repeat (first | exact Drawn0.refl _ | apply Drawn0.step)⟩
                      case round =>
                        clear H'
                        try clear c1
                        try clear p1
                        try clear q1
                        try clear hx1
                        try clear c2
                        try clear p2
                        try clear c4
                        try clear c4b0
                        try clear c5
                        try clear c6
                        try clear c6b0
                        try clear c6b1
                        try clear c7
                        try clear c7b0
                        try clear c9
                        try clear c9b0
                        try clear c10
                        try clear c10b0
                        try clear c11
                        try clear c11b0
                        try clear c12
                        try clear hx155_0
                        try clear hx155_1
                        try clear hx155_2
                        try clear hx156_0
                        try clear hx156_1
                        try clear hx156_2
                        try clear hx157_0
                        try clear hx157_1
                        try clear hx157_2
                        try clear hx158_0
                        try clear hx158_1
                        try clear hx158_2
                        try clear p1
                        try clear p155
                        try clear p156
                        try clear p157
                        try clear p158
                        try clear p2
                        try clear q1
                        try clear q155
                        try clear q156
                        try clear q157
                        try clear q158
                        obtain ⟨x6_4, rfl, HA, HK4, ⟨m4, rfl⟩⟩ := hrel
                        cases gk with
                        | zero => exact absurd HA.out (by simp [drovewayref09_Ties.l1])
                        | succ k4 =>
                          have H := HA.out
                          clear HA
                          simp only [drovewayref09_Ties.l1] at H
                          by_cases c13 : x6_4 < x5_2
                          · rw [if_pos c13] at H
                            have c13b0 : decide (x6_4 < x5_2) = true := decide_eq_true c13
                            clear c13
                            by_cases c14 : 0 ≤ x6_4
                            · rw [if_pos c14] at H
                              have c14b0 : decide (0 ≤ x6_4) = true := decide_eq_true c14
                              clear c14
                              by_cases c15 : x6_4 < (l1.length : Int)
                              · rw [if_pos c15] at H
                                have c15b0 : decide (x6_4 < (l1.length : Int)) = true := decide_eq_true c15
                                clear c15
                                by_cases c16 : 0 ≤ x5_2
                                · rw [if_pos c16] at H
                                  have c16b0 : decide (0 ≤ x5_2) = true := decide_eq_true c16
                                  clear c16
                                  by_cases c17 : x5_2 < (l1.length : Int)
                                  · rw [if_pos c17] at H
                                    have c17b0 : decide (x5_2 < (l1.length : Int)) = true := decide_eq_true c17
                                    clear c17
                                    by_cases c18 : ((rd_T39 l1 x6_4).f0) = ((rd_T39 l1 x5_2).f0)
                                    · rw [if_pos c18] at H
                                      have c18b0 : (((rd_T39 l1 x6_4).f0) == ((rd_T39 l1 x5_2).f0)) = true := beq_iff_eq.mpr c18
                                      have c18b1 : (((rd_T39 l1 x6_4).f0) != ((rd_T39 l1 x5_2).f0)) = false := bne_eq_false_iff_eq.mpr c18
                                      clear c18
                                      by_cases c19 : ((rd_T39 l1 x6_4).f1) = ((rd_T39 l1 x5_2).f1)
                                      · rw [if_pos c19] at H
                                        have c19b0 : (((rd_T39 l1 x6_4).f1) == ((rd_T39 l1 x5_2).f1)) = true := beq_iff_eq.mpr c19
                                        have c19b1 : (((rd_T39 l1 x6_4).f1) != ((rd_T39 l1 x5_2).f1)) = false := bne_eq_false_iff_eq.mpr c19
                                        clear c19
                                        obtain rfl := Option.some.inj H
                                        have p159 : 0 ≤ (x6_4 : Int) := of_decide_eq_true (by first | (with_reducible assumption) | assumption)
                                        have q159 : x6_4 < (l1.length : Int) := of_decide_eq_true (by first | (with_reducible assumption) | assumption)
                                        obtain ⟨ad159, e159, hx159_0, hx159_1, hx159_2⟩ := at_T39 HR1.out x6_4 p159 q159
                                        cases e159
                                        replace p159 := eq_true p159
                                        replace q159 := eq_true q159
                                        have p160 : 0 ≤ (x5_2 : Int) := of_decide_eq_true (by first | (with_reducible assumption) | assumption)
                                        have q160 : x5_2 < (l1.length : Int) := of_decide_eq_true (by first | (with_reducible assumption) | assumption)
                                        obtain ⟨ad160, e160, hx160_0, hx160_1, hx160_2⟩ := at_T39 HR1.out x5_2 p160 q160
                                        obtain rfl : ad159 = ad160 := (by injection e160)
                                        replace p160 := eq_true p160
                                        replace q160 := eq_true q160
                                        have p161 : 0 ≤ (x6_4 : Int) := of_decide_eq_true (by first | (with_reducible assumption) | assumption)
                                        have q161 : x6_4 < (l1.length : Int) := of_decide_eq_true (by first | (with_reducible assumption) | assumption)
                                        obtain ⟨ad161, e161, hx161_0, hx161_1, hx161_2⟩ := at_T39 HR1.out x6_4 p161 q161
                                        obtain rfl : ad159 = ad161 := (by injection e161)
                                        replace p161 := eq_true p161
                                        replace q161 := eq_true q161
                                        have p162 : 0 ≤ (x5_2 : Int) := of_decide_eq_true (by first | (with_reducible assumption) | assumption)
                                        have q162 : x5_2 < (l1.length : Int) := of_decide_eq_true (by first | (with_reducible assumption) | assumption)
                                        obtain ⟨ad162, e162, hx162_0, hx162_1, hx162_2⟩ := at_T39 HR1.out x5_2 p162 q162
                                        obtain rfl : ad159 = ad162 := (by injection e162)
                                        replace p162 := eq_true p162
                                        replace q162 := eq_true q162
                                        go_wp2
                                        repeat (go_quiet (fail); try go_wp2)
                                        go_ret
                                        exact ⟨by first | rfl | (simp; done) | (simp [*]; done), by repeat (first | exact Drawn0.refl _ | apply Drawn0.step)⟩
                                      · rw [if_neg c19] at H
                                        have c19b0 : (((rd_T39 l1 x6_4).f1) == ((rd_T39 l1 x5_2).f1)) = false := beq_eq_false_iff_ne.mpr c19
                                        have c19b1 : (((rd_T39 l1 x6_4).f1) != ((rd_T39 l1 x5_2).f1)) = true := bne_iff_ne.mpr c19
                                        have H' := Aside0.mk H
                                        clear H
                                        have p159 : 0 ≤ (x6_4 : Int) := of_decide_eq_true (by first | (with_reducible assumption) | assumption)
                                        have q159 : x6_4 < (l1.length : Int) := of_decide_eq_true (by first | (with_reducible assumption) | assumption)
                                        obtain ⟨ad159, e159, hx159_0, hx159_1, hx159_2⟩ := at_T39 HR1.out x6_4 p159 q159
                                        cases e159
                                        replace p159 := eq_true p159
                                        replace q159 := eq_true q159
                                        have p160 : 0 ≤ (x5_2 : Int) := of_decide_eq_true (by first | (with_reducible assumption) | assumption)
                                        have q160 : x5_2 < (l1.length : Int) := of_decide_eq_true (by first | (with_reducible assumption) | assumption)
                                        obtain ⟨ad160, e160, hx160_0, hx160_1, hx160_2⟩ := at_T39 HR1.out x5_2 p160 q160
                                        obtain rfl : ad159 = ad160 := (by injection e160)
                                        replace p160 := eq_true p160
                                        replace q160 := eq_true q160
                                        have p161 : 0 ≤ (x6_4 : Int) := of_decide_eq_true (by first | (with_reducible assumption) | assumption)
                                        have q161 : x6_4 < (l1.length : Int) := of_decide_eq_true (by first | (with_reducible assumption) | assumption)
                                        obtain ⟨ad161, e161, hx161_0, hx161_1, hx161_2⟩ := at_T39 HR1.out x6_4 p161 q161
                                        obtain rfl : ad159 = ad161 := (by injection e161)
                                        replace p161 := eq_true p161
                                        replace q161 := eq_true q161
                                        have p162 : 0 ≤ (x5_2 : Int) := of_decide_eq_true (by first | (with_reducible assumption) | assumption)
                                        have q162 : x5_2 < (l1.length : Int) := of_decide_eq_true (by first | (with_reducible assumption) | assumption)
                                        obtain ⟨ad162, e162, hx162_0, hx162_1, hx162_2⟩ := at_T39 HR1.out x5_2 p162 q162
                                        obtain rfl : ad159 = ad162 := (by injection e162)
                                        replace p162 := eq_true p162
                                        replace q162 := eq_true q162
                                        go_wp2
                                        repeat (go_quiet (fail); try go_wp2)
                                        go_roundg k4
                                        case measure => have := HJ2.out; have := HK2.out; have := HJ7.out; have := HK4.out; omega
                                        case rel => exact ⟨(wrap64 (x6_4 + 1)), (by first | rfl | (simp; done) | (simp [*]; done)), H', ⟨by have := HJ2.out; have := HK2.out; have := HJ7.out; have := HK4.out; omega⟩, by repeat (first | exact Drawn0.refl _ | apply Drawn0.step)⟩
                                    · rw [if_neg c18] at H
                                      have c18b0 : (((rd_T39 l1 x6_4).f0) == ((rd_T39 l1 x5_2).f0)) = false := beq_eq_false_iff_ne.mpr c18
                                      have c18b1 : (((rd_T39 l1 x6_4).f0) != ((rd_T39 l1 x5_2).f0)) = true := bne_iff_ne.mpr c18
                                      have H' := Aside0.mk H
                                      clear H
                                      have p159 : 0 ≤ (x6_4 : Int) := of_decide_eq_true (by first | (with_reducible assumption) | assumption)
                                      have q159 : x6_4 < (l1.length : Int) := of_decide_eq_true (by first | (with_reducible assumption) | assumption)
                                      obtain ⟨ad159, e159, hx159_0, hx159_1, hx159_2⟩ := at_T39 HR1.out x6_4 p159 q159
                                      cases e159
                                      replace p159 := eq_true p159
                                      replace q159 := eq_true q159
                                      have p160 : 0 ≤ (x5_2 : Int) := of_decide_eq_true (by first | (with_reducible assumption) | assumption)
                                      have q160 : x5_2 < (l1.length : Int) := of_decide_eq_true (by first | (with_reducible assumption) | assumption)
                                      obtain ⟨ad160, e160, hx160_0, hx160_1, hx160_2⟩ := at_T39 HR1.out x5_2 p160 q160
                                      obtain rfl : ad159 = ad160 := (by injection e160)
                                      replace p160 := eq_true p160
                                      replace q160 := eq_true q160
                                      go_wp2
                                      repeat (go_quiet (fail); try go_wp2)
                                      go_roundg k4
                                      case measure => have := HJ2.out; have := HK2.out; have := HJ7.out; have := HK4.out; omega
                                      case rel => exact ⟨(wrap64 (x6_4 + 1)), (by first | rfl | (simp; done) | (simp [*]; done)), H', ⟨by have := HJ2.out; have := HK2.out; have := HJ7.out; have := HK4.out; omega⟩, by repeat (first | exact Drawn0.refl _ | apply Drawn0.step)⟩
                                  · rw [if_neg c17] at H
                                    exact absurd H (by simp)
                                · rw [if_neg c16] at H
                                  exact absurd H (by simp)
                              · rw [if_neg c15] at H
                                exact absurd H (by simp)
                            · rw [if_neg c14] at H
                              exact absurd H (by simp)
                          · rw [if_neg c13] at H
                            have c13b0 : decide (x6_4 < x5_2) = false := decide_eq_false c13
                            clear c13
                            have H' := Aside0.mk H
                            clear H
                            go_wp2
                            repeat (go_quiet (fail); try go_wp2)
                            go_roundg k4
                            case measure => have := HJ2.out; have := HK2.out; have := HJ7.out; have := HK4.out; omega
                            case rel => exact ⟨(wrap64 (x5_2 + 1)), (by first | rfl | (simp; done) | (simp [*]; done)), H', ⟨by have := HJ2.out; have := HK2.out; have := HJ7.out; have := HK4.out; omega⟩, by repeat (first | exact Drawn0.refl _ | apply Drawn0.step)⟩
              · rw [if_neg c7] at H
                have c7b0 : decide (x5_2 < (l1.length : Int)) = false := decide_eq_false c7
                clear c7
                obtain rfl := Option.some.inj H
                go_wp2
                repeat (go_quiet (fail); try go_wp2)
                go_ret
                exact ⟨by first | rfl | (simp; done) | (simp [*]; done), by repeat (first | exact Drawn0.refl _ | apply Drawn0.step)⟩

end
end Go.Proofs.Ytaegldcifhgnmaa.B

/- The reference's rings as they are judged, as the kit's print writes them. -/
namespace Go.Proofs.Ytaegldcifhgnmaa.B
open Go.Proofs.Ytaegldcifhgnmaa.A
open Go.RowKit Go.Proofs.YtaegldcifhgnmaaW.PrintWords Go.Proofs.YtaegldcifhgnmaaW.PrintLast Go.Proofs.YtaegldcifhgnmaaW.PrintMore
section
attribute [local go_sem] max2_int min2_int max_two min_two max_three min_three max_four min_four   -- for this text's walks alone
set_option linter.unusedVariables false
set_option linter.unusedSimpArgs false
/-! ### drovewayref09_Less: function 41 -/
mutual
def drovewayref09_Less.l0 : Nat → List Int → List Int → Int → Option (Bool)
  | 0, _, _, _ => none
  | k + 1, x0, x1, x5 => if x5 < (x0.length : Int) then (drovewayref09_Less.j1 k x0 x1 x5 (decide (x5 < (x1.length : Int)))) else (drovewayref09_Less.j1 k x0 x1 x5 false)
def drovewayref09_Less.j1 : Nat → List Int → List Int → Int → Bool → Option (Bool)
  | 0, _, _, _, _ => none
  | k + 1, x0, x1, x5, x15 => if x15 = true then (if 0 ≤ x5 then (if x5 < (x0.length : Int) then (if x5 < (x1.length : Int) then (if (rd x0 x5) = (rd x1 x5) then (drovewayref09_Less.l0 k x0 x1 (wrap64 (x5 + 1))) else (some (decide ((rd x0 x5) < (rd x1 x5))))) else (none)) else (none)) else (none)) else (some (decide ((x0.length : Int) < (x1.length : Int))))
end
def drovewayref09_Less.f (k : Nat) (l0 : List Int) (l1 : List Int) : Option (Bool) := drovewayref09_Less.l0 k l0 l1 0
theorem drovewayref09_Less.mono_l : ∀ k, (∀ y0 y1 y2, LeO (drovewayref09_Less.l0 k y0 y1 y2) (drovewayref09_Less.l0 (k + 1) y0 y1 y2)) ∧ (∀ y0 y1 y2 y3, LeO (drovewayref09_Less.j1 k y0 y1 y2 y3) (drovewayref09_Less.j1 (k + 1) y0 y1 y2 y3))
  | 0 => ⟨fun _ _ _ r h => by simp [drovewayref09_Less.l0] at h, fun _ _ _ _ r h => by simp [drovewayref09_Less.j1] at h⟩
  | k + 1 => by
    obtain ⟨ih0, ih1⟩ := drovewayref09_Less.mono_l k
    refine ⟨?_, ?_⟩
    · intro y0 y1 y2
      unfold drovewayref09_Less.l0
      repeat' first
      | (with_reducible exact ih0 _ _ _)
      | (with_reducible exact ih1 _ _ _ _)
      | (with_reducible exact LeO.refl _)
      | (with_reducible exact LeO.none _)
      | (with_reducible refine LeO.ite ?_ ?_)
      | (with_reducible refine LeO.bind ?_ (fun _ => ?_))
      | exact ih0 _ _ _
      | exact ih1 _ _ _ _
      | exact LeO.none _
      | refine LeO.ite ?_ ?_
      | refine LeO.bind ?_ (fun _ => ?_)
    · intro y0 y1 y2 y3
      unfold drovewayref09_Less.j1
      repeat' first
      | (with_reducible exact ih0 _ _ _)
      | (with_reducible exact ih1 _ _ _ _)
      | (with_reducible exact LeO.refl _)
      | (with_reducible exact LeO.none _)
      | (with_reducible refine LeO.ite ?_ ?_)
      | (with_reducible refine LeO.bind ?_ (fun _ => ?_))
      | exact ih0 _ _ _
      | exact ih1 _ _ _ _
      | exact LeO.none _
      | refine LeO.ite ?_ ?_
      | refine LeO.bind ?_ (fun _ => ?_)
theorem drovewayref09_Less.mono : ∀ a0 a1 k, LeO (drovewayref09_Less.f k a0 a1) (drovewayref09_Less.f (k + 1) a0 a1) := by
  intro a0 a1 k
  obtain ⟨ih0, ih1⟩ := drovewayref09_Less.mono_l k
  unfold drovewayref09_Less.f
  repeat' first
      | (with_reducible exact ih0 _ _ _)
      | (with_reducible exact ih1 _ _ _ _)
      | (with_reducible exact LeO.refl _)
      | (with_reducible exact LeO.none _)
      | (with_reducible refine LeO.ite ?_ ?_)
      | (with_reducible refine LeO.bind ?_ (fun _ => ?_))
      | exact ih0 _ _ _
      | exact ih1 _ _ _ _
      | exact LeO.none _
      | refine LeO.ite ?_ ?_
      | refine LeO.bind ?_ (fun _ => ?_)
set_option maxHeartbeats 8000000 in
set_option maxRecDepth 100000 in
theorem drovewayref09_Less.calls (k : Nat) (A0 : Option Addr) (c0 : Nat) (l0 : List Int) (A1 : Option Addr) (c1 : Nat) (l1 : List Int) (r : Bool) (w : World) (hr0 : Kd.C (Kd.int .i64) w A0 l0.length l0) (hc0 : l0.length ≤ c0) (hr1 : Kd.C (Kd.int .i64) w A1 l1.length l1) (hc1 : l1.length ≤ c1) (h : drovewayref09_Less.f k l0 l1 = some r) :
    Calls Try.prog 41 #[.slice A0 l0.length c0, .slice A1 l1.length c1] w fun e w' => e = .returned (.bool r) ∧ Drawn0 w w' := by
  have HR0 := Aside0.mk hr0
  have HC0 := Aside0.mk hc0
  clear hr0 hc0
  have HR1 := Aside0.mk hr1
  have HC1 := Aside0.mk hc1
  clear hr1 hc1
  have H : (drovewayref09_Less.l0 k l0 l1 0) = some r := h
  clear h
  have H' := Aside0.mk H
  clear H
  go_enter Try.func41, Try.ntmps41
  go_wp2
  repeat (go_quiet (fail); try go_wp2)
  go_loopg [5] k (fun kq v5 w' => ∃ (x5_1 : Int), v5 = .int .i64 x5_1 ∧ Aside0 (drovewayref09_Less.l0 kq l0 l1 x5_1 = some r) ∧ Aside0 (kq ≤ k) ∧ Drawn0 w w')
  case atStart => exact ⟨(0), (by first | rfl | (simp; done) | (simp [*]; done)), H', ⟨Nat.le_refl _⟩, by repeat (first | exact Drawn0.refl _ | apply Drawn0.step)⟩
  case round =>
    clear H'
    try clear c1
    try clear p2
    obtain ⟨x5_1, rfl, HA, HK1, ⟨m1, rfl⟩⟩ := hrel
    cases gk with
    | zero => exact absurd HA.out (by simp [drovewayref09_Less.l0])
    | succ k1 =>
      have H := HA.out
      clear HA
      simp only [drovewayref09_Less.l0] at H
      have HC3 := Aside0.mk H
      clear H
      go_upto_region 2 with (fail)
      repeat (go_quiet (fail); go_upto_region 2 with (fail))
      go_cut [15] (fun v15 wc => ∃ (kq : Nat) (x15_2 : Bool), v15 = .bool x15_2 ∧ Aside0 (drovewayref09_Less.j1 kq l0 l1 x5_1 x15_2 = some r) ∧ Aside0 (kq ≤ k1) ∧ Drawn0 w wc)
      case first =>
        have H := HC3.out
        clear HC3
        by_cases c4 : x5_1 < (l0.length : Int)
        · rw [if_pos c4] at H
          have c4b0 : decide (x5_1 < (l0.length : Int)) = true := decide_eq_true c4
          clear c4
          (first | rw [c4b0] | (simp only [i64_w, i32_w]; rw [c4b0]) | skip)
          have H' := Aside0.mk H
          clear H
          go_wp2
          repeat (go_quiet (fail); try go_wp2)
          go_meet
          case rel => exact ⟨_, (decide (x5_1 < (l1.length : Int))), (by first | rfl | (simp; done) | (simp [*]; done)), H', ⟨by have := HK1.out; first | omega | exact Nat.le_refl _⟩, by repeat (first | exact Drawn0.refl _ | apply Drawn0.step)⟩
        · rw [if_neg c4] at H
          have c4b0 : decide (x5_1 < (l0.length : Int)) = false := decide_eq_false c4
          clear c4
          (first | rw [c4b0] | (simp only [i64_w, i32_w]; rw [c4b0]) | skip)
          have H' := Aside0.mk H
          clear H
          go_wp2
          repeat (go_quiet (fail); try go_wp2)
          go_meet
          case rel => exact ⟨_, (false), (by first | rfl | (simp; done) | (simp [*]; done)), H', ⟨by have := HK1.out; first | omega | exact Nat.le_refl _⟩, by repeat (first | exact Drawn0.refl _ | apply Drawn0.step)⟩
      case rest =>
        clear HC3
        try clear c1
        try clear p2
        try clear c4
        try clear c4b0
        try clear p2
        obtain ⟨kq, x15_2, rfl, HA, HJ2, ⟨mc2, rfl⟩⟩ := hcut
        cases kq with
        | zero => exact absurd HA.out (by simp [drovewayref09_Less.j1])
        | succ kj2 =>
          have H := HA.out
          clear HA
          simp only [drovewayref09_Less.j1] at H
          by_cases c5 : x15_2 = true
          · subst c5
            have H1 : (if 0 ≤ x5_1 then (if x5_1 < (l0.length : Int) then (if x5_1 < (l1.length : Int) then (if (rd l0 x5_1) = (rd l1 x5_1) then (drovewayref09_Less.l0 kj2 l0 l1 (wrap64 (x5_1 + 1))) else (some (decide ((rd l0 x5_1) < (rd l1 x5_1))))) else (none)) else (none)) else (none)) = some r := by rw [if_pos rfl] at H; exact H
            clear H
            have H := H1
            clear H1
            by_cases c6 : 0 ≤ x5_1
            · rw [if_pos c6] at H
              have c6b0 : decide (0 ≤ x5_1) = true := decide_eq_true c6
              clear c6
              by_cases c7 : x5_1 < (l0.length : Int)
              · rw [if_pos c7] at H
                have c7b0 : decide (x5_1 < (l0.length : Int)) = true := decide_eq_true c7
                clear c7
                by_cases c8 : x5_1 < (l1.length : Int)
                · rw [if_pos c8] at H
                  have c8b0 : decide (x5_1 < (l1.length : Int)) = true := decide_eq_true c8
                  clear c8
                  by_cases c9 : (rd l0 x5_1) = (rd l1 x5_1)
                  · rw [if_pos c9] at H
                    have c9b0 : ((rd l0 x5_1) == (rd l1 x5_1)) = true := beq_iff_eq.mpr c9
                    have c9b1 : ((rd l0 x5_1) != (rd l1 x5_1)) = false := bne_eq_false_iff_eq.mpr c9
                    clear c9
                    have H' := Aside0.mk H
                    clear H
                    have p174 : 0 ≤ (x5_1 : Int) := of_decide_eq_true (by first | (with_reducible assumption) | assumption)
                    have q174 : x5_1 < (l0.length : Int) := of_decide_eq_true (by first | (with_reducible assumption) | assumption)
                    obtain ⟨ad174, e174, hx174_0⟩ := Kd.at_int HR0.out x5_1 p174 q174
                    cases e174
                    replace p174 := eq_true p174
                    replace q174 := eq_true q174
                    have p175 : 0 ≤ (x5_1 : Int) := of_decide_eq_true (by first | (with_reducible assumption) | assumption)
                    have q175 : x5_1 < (l1.length : Int) := of_decide_eq_true (by first | (with_reducible assumption) | assumption)
                    obtain ⟨ad175, e175, hx175_0⟩ := Kd.at_int HR1.out x5_1 p175 q175
                    cases e175
                    replace p175 := eq_true p175
                    replace q175 := eq_true q175
                    go_wp2
                    repeat (go_quiet (fail); try go_wp2)
                    go_roundg kj2
                    case measure => have := HK1.out; have := HJ2.out; omega
                    case rel => exact ⟨(wrap64 (x5_1 + 1)), (by first | rfl | (simp; done) | (simp [*]; done)), H', ⟨by have := HK1.out; have := HJ2.out; omega⟩, by repeat (first | exact Drawn0.refl _ | apply Drawn0.step)⟩
                  · rw [if_neg c9] at H
                    have c9b0 : ((rd l0 x5_1) == (rd l1 x5_1)) = false := beq_eq_false_iff_ne.mpr c9
                    have c9b1 : ((rd l0 x5_1) != (rd l1 x5_1)) = true := bne_iff_ne.mpr c9
                    obtain rfl := Option.some.inj H
                    have p174 : 0 ≤ (x5_1 : Int) := of_decide_eq_true (by first | (with_reducible assumption) | assumption)
                    have q174 : x5_1 < (l0.length : Int) := of_decide_eq_true (by first | (with_reducible assumption) | assumption)
                    obtain ⟨ad174, e174, hx174_0⟩ := Kd.at_int HR0.out x5_1 p174 q174
                    cases e174
                    replace p174 := eq_true p174
                    replace q174 := eq_true q174
                    have p175 : 0 ≤ (x5_1 : Int) := of_decide_eq_true (by first | (with_reducible assumption) | assumption)
                    have q175 : x5_1 < (l1.length : Int) := of_decide_eq_true (by first | (with_reducible assumption) | assumption)
                    obtain ⟨ad175, e175, hx175_0⟩ := Kd.at_int HR1.out x5_1 p175 q175
                    cases e175
                    replace p175 := eq_true p175
                    replace q175 := eq_true q175
                    have p176 : 0 ≤ (x5_1 : Int) := of_decide_eq_true (by first | (with_reducible assumption) | assumption)
                    have q176 : x5_1 < (l0.length : Int) := of_decide_eq_true (by first | (with_reducible assumption) | assumption)
                    obtain ⟨ad176, e176, hx176_0⟩ := Kd.at_int HR0.out x5_1 p176 q176
                    obtain rfl : ad174 = ad176 := (by injection e176)
                    replace p176 := eq_true p176
                    replace q176 := eq_true q176
                    have p177 : 0 ≤ (x5_1 : Int) := of_decide_eq_true (by first | (with_reducible assumption) | assumption)
                    have q177 : x5_1 < (l1.length : Int) := of_decide_eq_true (by first | (with_reducible assumption) | assumption)
                    obtain ⟨ad177, e177, hx177_0⟩ := Kd.at_int HR1.out x5_1 p177 q177
                    obtain rfl : ad175 = ad177 := (by injection e177)
                    replace p177 := eq_true p177
                    replace q177 := eq_true q177
                    go_wp2
                    repeat (go_quiet (fail); try go_wp2)
                    go_ret
                    exact ⟨by first | rfl | (simp; done) | (simp [*]; done), by repeat (first | exact Drawn0.refl _ | apply Drawn0.step)⟩
                · rw [if_neg c8] at H
                  exact absurd H (by simp)
              · rw [if_neg c7] at H
                exact absurd H (by simp)
            · rw [if_neg c6] at H
              exact absurd H (by simp)
          · replace c5 := Bool.eq_false_iff.mpr c5
            subst c5
            have H1 : (some (decide ((l0.length : Int) < (l1.length : Int)))) = some r := by rw [if_neg (show ¬ (false = true) by decide)] at H; exact H
            clear H
            have H := H1
            clear H1
            obtain rfl := Option.some.inj H
            go_wp2
            repeat (go_quiet (fail); try go_wp2)
            go_ret
            exact ⟨by first | rfl | (simp; done) | (simp [*]; done), by repeat (first | exact Drawn0.refl _ | apply Drawn0.step)⟩


end
end Go.Proofs.Ytaegldcifhgnmaa.B
