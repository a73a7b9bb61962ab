/- Who wins: the program's recursion, which remembers turns, against the plain game. -/
import Derived.Test.YtbjpjjokamaliaaA6
namespace Go.Proofs.Ytbjpjjokamaliaa.A
open Go.RowKit Go.Proofs.YtbjpjjokamaliaaW.PrintWords Go.Proofs.YtbjpjjokamaliaaW.PrintMore

/-- Wolves are 1, dogs 2. -/
def who (b : Bool) : Int := if b then 1 else 2
def winZ (l : List Int) (m p d : Nat) (nx : Bool) : Int := who (wins l m p.testBit d.testBit nx)
theorem who_12 (b : Bool) : who b = 1 ∨ who b = 2 := by cases b <;> simp [who]

/-- What is remembered is so. -/
def Memo (l : List Int) (m : Nat) (w : World) (b : Nat) : Prop :=
  ∃ mm : List ((Int × Int × Int) × Value), MapIs encT w b mm ∧ ∀ q ∈ mm, ∀ (p d : Nat) (nx : Bool), q.1 = ((p : Int), (d : Int), who nx) → q.2 = .int .i64 (winZ l m p d nx)

theorem Memo.keep {l : List Int} {m : Nat} {w w' : World} {b : Nat} (h : Memo l m w b) (hb : Below w.heap.size w w') : Memo l m w' b := by
  obtain ⟨mm, ⟨es, clock, h1, h2⟩, h3⟩ := h
  exact ⟨mm, ⟨es, clock, (hb.block b (Array.getElem?_eq_some_iff.1 h1).1).trans h1, h2⟩, h3⟩

theorem run_zero3 (w : World) : (zeroValue 3).run Try.prog w = .ok (.int .i64 0) w := by kernel_rfl

theorem Memo.look {l : List Int} {m : Nat} {w : World} {b : Nat} (h : Memo l m w b) (p d : Nat) (nx : Bool) :
    ∃ v : Int, (Instr.lookup 70 (.map (some b)) (.agg #[.int .i64 p, .int .i64 d, .int .i64 (who nx)]) false).run Try.prog w = .ok (.int .i64 v) w ∧ (v = 0 ∨ v = winZ l m p d nx) := by
  obtain ⟨mm, h1, h2⟩ := h
  have hr := lookup_run kindT Try.underlying70 run_zero3 h1 ((p : Int), (d : Int), who nx)
  cases hi : idx mm ((p : Int), (d : Int), who nx) with
  | none =>
    rw [hi] at hr
    exact ⟨0, hr, .inl rfl⟩
  | some q =>
    rw [hi] at hr
    obtain ⟨hq, k1, k2⟩ := idx_some hi
    have := h2 _ (List.getElem_mem hq) p d nx k1
    rw [k2] at this
    refine ⟨winZ l m p d nx, ?_, .inr rfl⟩
    rw [← this]
    exact hr

theorem who_inj {a b : Bool} (h : who a = who b) : a = b := by cases a <;> cases b <;> simp [who] at h ⊢

theorem Memo.store {l : List Int} {m : Nat} {w : World} {b : Nat} (h : Memo l m w b) (p d : Nat) (nx : Bool) (v : Int) (hv : v = winZ l m p d nx) :
    ∃ w', (Instr.mapUpdate 70 (.map (some b)) (.agg #[.int .i64 p, .int .i64 d, .int .i64 (who nx)]) (.int .i64 v)).run Try.prog w = .ok () w' ∧ Memo l m w' b ∧ Keep b w w' := by
  obtain ⟨mm, h1, h2⟩ := h
  obtain ⟨w', hr, hm, hk⟩ := update_run kindT Try.underlying70 h1 ((p : Int), (d : Int), who nx) (.int .i64 v)
  refine ⟨w', hr, ⟨_, hm, ?_⟩, hk⟩
  intro q hq p' d' nx' he
  rcases mem_putM hq with rfl | hq
  · simp only [Prod.mk.injEq] at he
    obtain ⟨e1, e2, e3⟩ := he
    have e1 : p = p' := by omega
    have e2 : d = d' := by omega
    have e3 := who_inj e3
    subst e1; subst e2; subst e3; subst hv
    rfl
  · exact h2 q hq p' d' nx' he

/-- What is held while a turn is looked at. -/
structure WInv (l : List Int) (m : Nat) (b : Nat) (w W : World) (g : Nat) : Prop where
  keep : Keep b w W
  memo : Memo l m W b
  big : g + 1 < W.heap.size
  ne : b < g

theorem held_below {l : List Int} {m p d b g : Nat} {nx : Int} {A : Option Addr} {c : Nat} {w W W' : World}
    (h : W.cell? ⟨g, 0, none⟩ = some (.int .i64 m) ∧ W.cell? ⟨g, 1, none⟩ = some (.slice A l.length c) ∧ W.cell? ⟨g + 1, 0, none⟩ = some (.int .i64 p) ∧ W.cell? ⟨g + 1, 1, none⟩ = some (.int .i64 d) ∧ W.cell? ⟨g + 1, 2, none⟩ = some (.int .i64 nx) ∧ Aside0 (WInv l m b w W g))
    (hb : Below W.heap.size W W') :
    W'.cell? ⟨g, 0, none⟩ = some (.int .i64 m) ∧ W'.cell? ⟨g, 1, none⟩ = some (.slice A l.length c) ∧ W'.cell? ⟨g + 1, 0, none⟩ = some (.int .i64 p) ∧ W'.cell? ⟨g + 1, 1, none⟩ = some (.int .i64 d) ∧ W'.cell? ⟨g + 1, 2, none⟩ = some (.int .i64 nx) ∧ Aside0 (WInv l m b w W' g) := by
  obtain ⟨h1, h2, h3, h4, h5, ⟨h6⟩⟩ := h
  exact ⟨pw_cell_below hb h1, pw_cell_below hb h2, pw_cell_below hb h3, pw_cell_below hb h4, pw_cell_below hb h5, ⟨⟨h6.keep.trans (Keep.of_below hb), h6.memo.keep hb, Nat.lt_of_lt_of_le h6.big hb.size, h6.ne⟩⟩⟩
theorem keep_cell {b : Nat} {W W' : World} (hk : Keep b W W') {a : Addr} {v : Value} (hne : a.block ≠ b) (h : W.cell? a = some v) : W'.cell? a = some v :=
  (World.cell?_of_block (w := W) (hk.block a.block (World.block_lt_of_cell? W a h) hne)).trans h
theorem held_keep {l : List Int} {m p d b g : Nat} {nx : Int} {A : Option Addr} {c : Nat} {w W W' : World}
    (h : W.cell? ⟨g, 0, none⟩ = some (.int .i64 m) ∧ W.cell? ⟨g, 1, none⟩ = some (.slice A l.length c) ∧ W.cell? ⟨g + 1, 0, none⟩ = some (.int .i64 p) ∧ W.cell? ⟨g + 1, 1, none⟩ = some (.int .i64 d) ∧ W.cell? ⟨g + 1, 2, none⟩ = some (.int .i64 nx) ∧ Aside0 (WInv l m b w W g))
    (hb : Keep b W W') (hm : Memo l m W' b) :
    W'.cell? ⟨g, 0, none⟩ = some (.int .i64 m) ∧ W'.cell? ⟨g, 1, none⟩ = some (.slice A l.length c) ∧ W'.cell? ⟨g + 1, 0, none⟩ = some (.int .i64 p) ∧ W'.cell? ⟨g + 1, 1, none⟩ = some (.int .i64 d) ∧ W'.cell? ⟨g + 1, 2, none⟩ = some (.int .i64 nx) ∧ Aside0 (WInv l m b w W' g) := by
  obtain ⟨h1, h2, h3, h4, h5, ⟨h6⟩⟩ := h
  have hne := h6.ne
  exact ⟨keep_cell hb (by show g ≠ b; omega) h1, keep_cell hb (by show g ≠ b; omega) h2, keep_cell hb (by show g + 1 ≠ b; omega) h3, keep_cell hb (by show g + 1 ≠ b; omega) h4, keep_cell hb (by show g + 1 ≠ b; omega) h5, ⟨⟨h6.keep.trans hb, hm, Nat.lt_of_lt_of_le h6.big hb.size, h6.ne⟩⟩⟩
end Go.Proofs.Ytbjpjjokamaliaa.A
