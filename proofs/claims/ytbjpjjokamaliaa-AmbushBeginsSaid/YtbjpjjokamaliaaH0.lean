/- A drawn region with guards that say no, operation by operation. -/
import Derived.Deep.RegionHeld3
namespace Go.Proofs.Ytbjpjjokamaliaa.A
variable {P : Program} {ops : Array Oper} {Q : Exit → Act → World → Prop} {md : Region.Mode} {S : World → Prop} {oi : Oper} {fuel : Nat} {listed : Array Bool} {a : Act} {w : World}

theorem noPanic_not {Q : Exit → Act → World → Prop} {c : List PanicEntry} {a : Act} {w : World} : ¬ NoPanic Q (.panic c) a w := fun h => h

theorem H_off (i d : Nat) (ho : ops[i]? = some oi) (hd : oi.dst = some d) (hn : Region.noSelect ops = true) (hf : Region.free md ops listed i = true) (hr : (Region.ready md ops listed).contains i = true)
    (hw : Region.wanted oi (yielded ops a.tmps) = false) (hS : S w) (h : wpAnyH P md ops (NoPanic Q) S fuel (listed.setIfInBounds i true) (a.put (some d) undef) w) : wpAnyH P md ops (NoPanic Q) S (fuel + 1) listed a w :=
  wpAnyH_take ho hn hf hr (fun _ _ _ h => (noPanic_not h).elim) (Or.inr ⟨hw, rfl⟩) hS (by rw [hd]; exact h)

theorem H_on (i d : Nat) (v : Value) (ho : ops[i]? = some oi) (hd : oi.dst = some d) (hn : Region.noSelect ops = true) (hf : Region.free md ops listed i = true) (hr : (Region.ready md ops listed).contains i = true)
    (hw : Region.wanted oi (yielded ops a.tmps) = true) (hy : ∀ w, S w → (execOp a.eval oi).run P w = .ok (.value v) w) (hS : S w) (h : wpAnyH P md ops (NoPanic Q) S fuel (listed.setIfInBounds i true) (a.put (some d) v) w) : wpAnyH P md ops (NoPanic Q) S (fuel + 1) listed a w :=
  wpAnyH_take ho hn hf hr (fun _ _ _ h => (noPanic_not h).elim) (Or.inl ⟨hw, hy⟩) hS (by rw [hd]; exact h)
end Go.Proofs.Ytbjpjjokamaliaa.A
