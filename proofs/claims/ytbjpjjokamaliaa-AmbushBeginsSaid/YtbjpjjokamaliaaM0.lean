/- A map that the call makes, whose keys are structs or arrays of whole numbers: what a look-up gives, and what a store leaves. -/
import Derived.RowKit3
import Derived.Below
import Derived.Maps.Own
import Derived.Test.YtbjpjjokamaliaaWWords
namespace Go.Proofs.Ytbjpjjokamaliaa.A
open Go.RowKit Go.Proofs.YtbjpjjokamaliaaW.PrintWords
variable {P : Program} {κ : Type} [DecidableEq κ]

/-- Keys of one type, as values. -/
structure KeyKind (P : Program) (K : TypeId) (enc : κ → Value) : Prop where
  eq : ∀ a b w, (Op.equal K (enc a) (enc b)).run P w = .ok (decide (a = b)) w
  ok : ∀ a e w, (Instr.checkKey e 10000 K (enc a)).run P w = .ok () w
  now : ∀ d, P.underlying K = some d → ∀ a b, Instr.sameNow d (enc a) (enc b) = none
  kind : ∃ d, P.underlying K = some d
  same : ∀ a, Instr.sameBits 10000 (enc a) (enc a) = true

/-- Where a key stands. -/
def idx (m : List (κ × Value)) (k : κ) : Option (Nat × Value) := (m.findIdx? (fun p => decide (p.1 = k))).map fun i => (i, ((m[i]?).map (·.2)).getD undef)

/-- A map reads as a list of keys and values. -/
def MapIs (enc : κ → Value) (w : World) (b : Nat) (m : List (κ × Value)) : Prop :=
  ∃ es clock, w.heap[b]? = some (.map es clock) ∧ es.toList.map (fun e => (e.key, e.val)) = m.map fun p => (enc p.1, p.2)

theorem findAsking_run {K : TypeId} {enc : κ → Value} (h : KeyKind P K enc) (k : κ) (w : World) : ∀ (es : List MapEntry) (m : List (κ × Value)) (i : Nat), es.map (fun e => (e.key, e.val)) = m.map (fun p => (enc p.1, p.2)) →
    (Instr.findAsking K (enc k) es i).run P w = .ok ((idx m k).map fun q => (q.1 + i, q.2)) w := by
  intro es
  induction es with
  | nil =>
    intro m i hm
    cases m with
    | nil => rfl
    | cons p m => simp at hm
  | cons e es ih =>
    intro m i hm
    cases m with
    | nil => simp at hm
    | cons p m =>
      simp only [List.map_cons, List.cons.injEq, Prod.mk.injEq] at hm
      obtain ⟨⟨h1, h2⟩, h3⟩ := hm
      rw [Instr.findAsking, h1]
      simp only [Sem.run_bind, h.eq, Result.andThen]
      by_cases hk : k = p.1
      · subst hk
        simp [idx, List.findIdx?_cons, h2]
      · have hk2 : ¬ p.1 = k := fun e => hk e.symm
        simp only [hk, decide_false, Bool.false_eq_true, if_false]
        rw [ih m (i + 1) h3]
        simp only [idx, List.findIdx?_cons, hk2, decide_false, Bool.false_eq_true, if_false]
        cases hq : m.findIdx? (fun q => decide (q.1 = k)) with
        | none => simp
        | some j => simp; omega

theorem findKey_run {K : TypeId} {enc : κ → Value} (h : KeyKind P K enc) (k : κ) (w : World) (es : List MapEntry) (m : List (κ × Value)) (hm : es.map (fun e => (e.key, e.val)) = m.map fun p => (enc p.1, p.2)) :
    (Instr.findKey K (enc k) es).run P w = .ok (idx m k) w := by
  obtain ⟨d, hd⟩ := h.kind
  have hask := findAsking_run h k w es m 0 hm
  rw [Instr.findKey]
  simp only [Sem.run_bind, run_underlying hd, Result.andThen]
  cases es with
  | nil =>
    cases m with
    | nil => rfl
    | cons p m => simp at hm
  | cons e es =>
    cases m with
    | nil => simp at hm
    | cons p m =>
      have h1 : e.key = enc p.1 := by simp at hm; exact hm.1.1
      have : Instr.findNow d (enc k) (e :: es) 0 = none := by rw [Instr.findNow, h1, h.now d hd]
      rw [this]
      simp only [hask]
      cases idx (p :: m) k <;> rfl

theorem lookup_run {K t E : TypeId} {enc : κ → Value} (h : KeyKind P K enc) (ht : P.underlying t = some (.map K E)) {z : Value} (hz : ∀ w, (zeroValue E).run P w = .ok z w) {w : World} {b : Nat} {m : List (κ × Value)} (hm : MapIs enc w b m) (k : κ) :
    (Instr.lookup t (.map (some b)) (enc k) false).run P w = .ok (((idx m k).map (·.2)).getD z) w := by
  obtain ⟨es, clock, hb, he⟩ := hm
  have h1 := findKey_run h k w es.toList m he
  have hget : (getObj b).run P w = .ok (.map es clock) w := by simp [getObj, Sem.run, hb]
  rw [Instr.lookup]
  simp only [Sem.run_bind, run_underlying ht, Result.andThen, hget, Sem.run_pure, h.ok, h1]
  cases idx m k with
  | none => simp [hz]
  | some q => simp

theorem idx_none {m : List (κ × Value)} {k : κ} (h : idx m k = none) : ∀ p ∈ m, p.1 ≠ k := by
  unfold idx at h
  rw [Option.map_eq_none_iff, List.findIdx?_eq_none_iff] at h
  intro p hp e
  have := h p hp
  simp [e] at this
theorem idx_some {m : List (κ × Value)} {k : κ} {q : Nat × Value} (h : idx m k = some q) : ∃ hq : q.1 < m.length, m[q.1].1 = k ∧ m[q.1].2 = q.2 := by
  unfold idx at h
  rw [Option.map_eq_some_iff] at h
  obtain ⟨i, hi, rfl⟩ := h
  rw [List.findIdx?_eq_some_iff_getElem] at hi
  obtain ⟨hlt, h1, _⟩ := hi
  exact ⟨hlt, by simpa using h1, by simp [List.getElem?_eq_getElem hlt]⟩

/-- A map behind a store. -/
def putM (m : List (κ × Value)) (k : κ) (v : Value) : List (κ × Value) :=
  match idx m k with
  | some q => m.set q.1 (k, v)
  | none => m ++ [(k, v)]

theorem mem_putM {m : List (κ × Value)} {k : κ} {v : Value} {p : κ × Value} (h : p ∈ putM m k v) : p = (k, v) ∨ p ∈ m := by
  unfold putM at h
  split at h
  · rcases List.mem_or_eq_of_mem_set h with h | h
    · exact .inr h
    · exact .inl h
  · rw [List.mem_append] at h
    rcases h with h | h
    · exact .inr h
    · exact .inl (by simpa using h)

/-- But for block b all that lay lies. -/
structure Keep (b : Nat) (w w' : World) : Prop where
  os : w'.os = w.os
  tape : w'.tape = w.tape
  output : w'.output = w.output
  size : w.heap.size ≤ w'.heap.size
  block : ∀ k, k < w.heap.size → k ≠ b → w'.heap[k]? = w.heap[k]?
theorem Keep.refl (b : Nat) (w : World) : Keep b w w := ⟨rfl, rfl, rfl, Nat.le_refl _, fun _ _ _ => rfl⟩
theorem Keep.trans {b : Nat} {a c d : World} (h : Keep b a c) (k : Keep b c d) : Keep b a d :=
  ⟨k.os.trans h.os, k.tape.trans h.tape, k.output.trans h.output, Nat.le_trans h.size k.size, fun i hi hb => (k.block i (Nat.lt_of_lt_of_le hi h.size) hb).trans (h.block i hi hb)⟩
theorem Keep.of_below {b : Nat} {w w' : World} (h : Below w.heap.size w w') : Keep b w w' := ⟨h.os, h.tape, h.output, h.size, fun k hk _ => h.block k hk⟩
theorem Keep.below {b : Nat} {w w' : World} {B : Nat} (h : Keep b w w') (hB : B ≤ b) (hs : B ≤ w.heap.size) : Below B w w' := ⟨h.os, h.tape, h.output, h.size, fun k hk => h.block k (by omega) (by omega)⟩

theorem run_setMap {w : World} {b : Nat} {o : Obj} {es : Array MapEntry} {clock : Nat} (h : w.heap[b]? = some (.map es clock)) : ∃ w', (setObj b o).run P w = .ok () w' ∧ w'.heap[b]? = some o ∧ Keep b w w' := by
  refine ⟨{ w with heap := w.heap.setIfInBounds b o }, ?_, ?_, rfl, rfl, rfl, by simp, ?_⟩
  · simp [setObj, Sem.run, h]
  · have hlt : b < w.heap.size := (Array.getElem?_eq_some_iff.1 h).1
    simp [hlt]
  · intro k _ hk
    simp only []
    rw [Array.getElem?_setIfInBounds_ne (Ne.symm hk)]

theorem update_run {K t E : TypeId} {enc : κ → Value} (h : KeyKind P K enc) (ht : P.underlying t = some (.map K E)) {w : World} {b : Nat} {m : List (κ × Value)} (hm : MapIs enc w b m) (k : κ) (v : Value) :
    ∃ w', (Instr.mapUpdate t (.map (some b)) (enc k) v).run P w = .ok () w' ∧ MapIs enc w' b (putM m k v) ∧ Keep b w w' := by
  obtain ⟨es, clock, hb, he⟩ := hm
  have h1 := findKey_run h k w es.toList m he
  have hlt : b < w.heap.size := (Array.getElem?_eq_some_iff.1 hb).1
  have hget : (getObj b).run P w = .ok (.map es clock) w := by simp [getObj, Sem.run, hb]
  have hlen : es.size = m.length := by have := congrArg List.length he; simpa using this
  unfold putM
  cases hi : idx m k with
  | none =>
    obtain ⟨w', hr, hh, hk⟩ := run_setMap (P := P) (o := .map (es.push { key := enc k, val := v, born := clock }) (clock + 1)) hb
    refine ⟨w', ?_, ⟨_, _, hh, by simp [he]⟩, hk⟩
    rw [Instr.mapUpdate]
    simp only [Sem.run_bind, run_underlying ht, Result.andThen, hget, h.ok, h1, hi, hr]
  | some q =>
    obtain ⟨hq, hk1, hk2⟩ := idx_some hi
    have hqe : q.1 < es.size := by omega
    have hkey : (es[q.1]'hqe).key = enc k := by
      have := congrArg (fun l => l[q.1]?) he
      simp [hqe, hq] at this
      rw [this.1, hk1]
    obtain ⟨w', hr, hh, hk⟩ := run_setMap (P := P) (o := .map (es.modify q.1 fun e => { e with key := enc k, val := v }) clock) hb
    refine ⟨w', ?_, ⟨_, _, hh, ?_⟩, hk⟩
    · rw [Instr.mapUpdate]
      simp only [Sem.run_bind, run_underlying ht, Result.andThen, hget, h.ok, h1, hi]
      simp only [Array.getElem?_eq_getElem hqe, Option.map_some, Option.getD_some, hkey, Instr.keyThatStays, h.same, if_true, Sem.run_pure, hr]
    · rw [Array.toList_modify]
      apply List.ext_getElem?
      intro j
      have hj := congrArg (fun l => l[j]?) he
      simp only [List.getElem?_map, List.getElem?_modify, List.getElem?_set] at hj ⊢
      by_cases hjq : q.1 = j
      · subst hjq
        simp [hqe, hq]
      · simp only [hjq, if_false]
        simpa using hj
end Go.Proofs.Ytbjpjjokamaliaa.A
