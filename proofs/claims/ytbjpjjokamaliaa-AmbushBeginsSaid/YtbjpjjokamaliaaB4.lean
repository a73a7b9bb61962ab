/- The search for a pairing, and what is held while it goes on. -/
import Derived.Test.YtbjpjjokamaliaaB3
namespace Go.Proofs.Ytbjpjjokamaliaa.A
open Go.RowKit Go.Proofs.YtbjpjjokamaliaaW.PrintWords Go.Proofs.YtbjpjjokamaliaaW.PrintMore

/-- The first of n numbers that gives something. -/
def firstN {α : Type} (f : Nat → Option α) : Nat → Option α
  | 0 => none
  | k + 1 => match firstN f k with
    | some r => some r
    | none => f k
theorem firstN_succ_none {α : Type} {f : Nat → Option α} {k : Nat} (h : firstN f k = none) : firstN f (k + 1) = f k := by rw [firstN, h]
theorem firstN_hit {α : Type} {f : Nat → Option α} {k : Nat} {r : α} (h : firstN f k = some r) : ∀ j, firstN f (k + j) = some r
  | 0 => h
  | j + 1 => by
    show firstN f ((k + j) + 1) = some r
    rw [firstN, firstN_hit h j]
theorem firstN_some {α : Type} {f : Nat → Option α} {k m : Nat} {r : α} (hk : k < m) (h0 : firstN f k = none) (h1 : f k = some r) : firstN f m = some r := by
  have h2 : firstN f (k + 1) = some r := by rw [firstN_succ_none h0, h1]
  have := firstN_hit h2 (m - (k + 1))
  rwa [show k + 1 + (m - (k + 1)) = m by omega] at this
theorem firstN_none {α : Type} {f : Nat → Option α} : ∀ k, (∀ i, i < k → f i = none) → firstN f k = none
  | 0, _ => rfl
  | k + 1, h => by rw [firstN_succ_none (firstN_none k fun i hi => h i (by omega))]; exact h k (by omega)

def pr (a b : Nat) : S59 := ⟨a, b⟩
/-- May a pair whose first spot is a come behind some pairs? -/
def lastOk (ps : List S59) (a : Nat) : Bool := match ps.getLast? with
  | none => true
  | some q => decide (q.f0 ≤ (a : Int))
def okB (used : Nat) (ps : List S59) (a b : Nat) : Bool := decide (used &&& setN (pr a b) = 0) && lastOk ps a
/-- The first way to go on with k pairs more. -/
def srch (l : List Int) (m : Nat) : Nat → Nat → List S59 → Option (List S59)
  | 0, _, ps => if metB l ps then some ps else none
  | k + 1, used, ps => firstN (fun a => firstN (fun b => if a < b ∧ okB used ps a b = true then srch l m k (used ||| setN (pr a b)) (ps ++ [pr a b]) else none) m) m

def ptr (g : Nat) : Value := .pointer (some ⟨g, 0, none⟩)
/-- What is held while pairs are sought. -/
structure PSt (w0 : World) (bm g m : Nat) (A : Option Addr) (n c : Nat) (v : Value) (ps : List S59) (W : World) : Prop where
  below : Below w0.heap.size w0 W
  cm : W.heap[bm]? = some (.cells #[.int .i64 m] 3 (0, 0))
  cf : W.heap[g]? = some (.cells #[.int .i64 m, .slice A n c] 61 (0, 0))
  cl : W.heap[g + 1]? = some (.cells #[v] 46 (0, 0))
  co : W.heap[g + 2]? = some (.cells #[.func (.func 48) #[] #[.pointer (some ⟨g, 0, none⟩), .pointer (some ⟨g + 1, 0, none⟩), .pointer (some ⟨bm, 0, none⟩), .pointer (some ⟨g + 2, 0, none⟩)]] 80 (0, 0))
  row : Kd.R k59 59 W (g + 3) (fun _ => True) v ps
  lt : bm < g
  lo : w0.heap.size ≤ bm

theorem cells1 {w : World} {g : Nat} {a : Value} {t : TypeId} (h : w.heap[g]? = some (.cells #[a] t (0, 0))) : w.cell? ⟨g, 0, none⟩ = some a ∧ w.frozen? ⟨g, 0, none⟩ = false := ⟨blk_cell h 0, blk_frozen h 0⟩

variable {w0 W W' : World} {bm g m n c : Nat} {A : Option Addr} {v v1 : Value} {ps : List S59}
theorem PSt.next (h : PSt w0 bm g m A n c v ps W) (hb : Below W.heap.size W W') : PSt w0 bm g m A n c v ps W' :=
  ⟨below_then h.below h.below.size hb, (hb.block _ (blk_lt h.cm)).trans h.cm, (hb.block _ (blk_lt h.cf)).trans h.cf, (hb.block _ (blk_lt h.cl)).trans h.cl, (hb.block _ (blk_lt h.co)).trans h.co, Kd.R_below h.row hb, h.lt, h.lo⟩
theorem PSt.big (h : PSt w0 bm g m A n c v ps W) : g + 2 < W.heap.size := blk_lt h.co

/-- Behind an append: the new row is stored. -/
theorem PSt.store {q : List S59} (h : PSt w0 bm g m A n c v ps W) {W1 : World} (hg : W.grownBy W1 v.ownBlock) (hr : Kd.R k59 59 W1 (g + 3) (fun _ => True) v1 q) : PSt w0 bm g m A n c v1 q (W1.setCell ⟨g + 1, 0, none⟩ v1) := by
  have hb : ∀ k, k < g + 3 → k < W.heap.size → W1.heap[k]? = W.heap[k]? := fun k hk hlt => hg.block k hlt (fun e => by have := Kd.R_base h.row k e.symm; omega)
  have hbig := h.big
  have hlt := h.lt
  have hlo := h.lo
  have hB1 : Below w0.heap.size w0 W1 := h.below.grown hg h.below.size (fun k hk => by have := Kd.R_base h.row k hk; omega)
  refine ⟨hB1.setCell (by show w0.heap.size ≤ g + 1; omega) _, ?_, ?_, ?_, ?_, ?_, h.lt, h.lo⟩
  · exact blk_far ((hb bm (by omega) (by omega)).trans h.cm) (by show bm ≠ g + 1; omega) _
  · exact blk_far ((hb g (by omega) (by omega)).trans h.cf) (by show g ≠ g + 1; omega) _
  · exact blk_set ((hb (g + 1) (by omega) (by omega)).trans h.cl) 0 _
  · exact blk_far ((hb (g + 2) (by omega) (by omega)).trans h.co) (by show g + 2 ≠ g + 1; omega) _
  · have h1 := Kd.R_bound hr
    exact Kd.R_mono (Kd.R_far h1 (fun k hk => by show k ≠ g + 1; have := hk.2.1; omega) v1) (fun _ _ => trivial)

/-- The row, cut by its last pair. -/
theorem PSt.cut {q : List S59} {p : S59} {A' : Option Addr} {n' c' : Nat} (h : PSt w0 bm g m A n c (.slice A' n' c') (q ++ [p]) W) : PSt w0 bm g m A n c (.slice A' (n' - 1) c') q (W.setCell ⟨g + 1, 0, none⟩ (.slice A' (n' - 1) c')) := by
  have hn : n' = q.length + 1 := by have := (Kd.R_reads' h.row).1; simpa using this
  have hr := Kd.R_take (m := n' - 1) h.row (by simp; omega)
  rw [show (q ++ [p]).take (n' - 1) = q by rw [hn]; simp] at hr
  exact h.store (World.grownBy.refl W _) hr

/-- What is left alone: all but the list's box and its row. -/
structure Fr (g : Nat) (W : World) (v : Value) (W' : World) (v' : Value) : Prop where
  size : W.heap.size ≤ W'.heap.size
  block : ∀ k, k < W.heap.size → k ≠ g + 1 → some k ≠ v.ownBlock → W'.heap[k]? = W.heap[k]?
  own : v'.ownBlock = v.ownBlock ∨ ∃ b, v'.ownBlock = some b ∧ W.heap.size ≤ b
theorem Fr.refl (g : Nat) (W : World) (v : Value) : Fr g W v W v := ⟨Nat.le_refl _, fun _ _ _ _ => rfl, .inl rfl⟩
theorem Fr.trans {g : Nat} {W W1 W2 : World} {v v1 v2 : Value} (h : Fr g W v W1 v1) (k : Fr g W1 v1 W2 v2) : Fr g W v W2 v2 := by
  refine ⟨Nat.le_trans h.size k.size, fun i hi h1 h2 => ?_, ?_⟩
  · refine (k.block i (Nat.lt_of_lt_of_le hi h.size) h1 (fun e => ?_)).trans (h.block i hi h1 h2)
    rcases h.own with ho | ⟨b, hb, hle⟩
    · exact h2 (e.trans ho)
    · rw [hb] at e; cases e; omega
  · rcases k.own with ho | ⟨b, hb, hle⟩
    · rcases h.own with ho1 | ⟨b, hb, hle⟩
      · exact .inl (ho.trans ho1)
      · exact .inr ⟨b, ho.trans hb, hle⟩
    · exact .inr ⟨b, hb, Nat.le_trans h.size hle⟩
theorem Fr.of_below {g : Nat} {W W' : World} {v : Value} (h : Below W.heap.size W W') : Fr g W v W' v := ⟨h.size, fun k hk _ _ => h.block k hk, .inl rfl⟩
theorem Fr.of_grown {g : Nat} {W W' : World} {v v' : Value} (h : W.grownBy W' v.ownBlock) (hat : v'.ownBlock = v.ownBlock ∨ ∃ b, v'.ownBlock = some b ∧ W.heap.size ≤ b) : Fr g W v W' v' := ⟨h.size, fun k hk _ h2 => h.block k hk h2, hat⟩
theorem Fr.set {g : Nat} {W : World} {v : Value} (u : Value) : Fr g W v (W.setCell ⟨g + 1, 0, none⟩ u) v :=
  ⟨by simp [World.setCell], fun k _ h1 _ => Below.heap_setCell _ _ _ _ h1, .inl rfl⟩
theorem Fr.cut {g : Nat} {W : World} {A : Option Addr} {n c n' c' : Nat} : Fr g W (.slice A n c) W (.slice A n' c') := by
  refine ⟨Nat.le_refl _, fun _ _ _ _ => rfl, .inl ?_⟩
  cases A <;> rfl
theorem Fr.cells {g : Nat} {W W' : World} {v v' : Value} (h : Fr g W v W' v') {k : Nat} {cs : Array Value} {t : TypeId} (hk : W.heap[k]? = some (.cells cs t (0, 0))) (h1 : k ≠ g + 1) (h2 : some k ≠ v.ownBlock) : W'.heap[k]? = some (.cells cs t (0, 0)) :=
  (h.block k (blk_lt hk) h1 h2).trans hk

/-- What the search leaves. -/
def OnPost (w0 : World) (bm g m : Nat) (A : Option Addr) (n c : Nat) (W : World) (vi : Value) (ps : List S59) (R : Option (List S59)) (e : Ending) (w' : World) : Prop :=
  ∃ v, e = .returned (.bool R.isSome) ∧ PSt w0 bm g m A n c v (R.getD ps) w' ∧ Fr g W vi w' v
end Go.Proofs.Ytbjpjjokamaliaa.A
