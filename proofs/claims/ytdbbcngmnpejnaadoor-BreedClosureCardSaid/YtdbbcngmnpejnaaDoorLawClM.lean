/- BreedClosure holds: its code returns true and leaves what it was given as it was. Conditions: those of the given statement, none besides. -/
import Derived.Test.YtdbbcngmnpejnaaDoorZCl2
import Derived.ArgAppend
import Derived.Test.YtdbbcngmnpejnaaDoorProg
import Derived.Below
import Derived.Deep.Draws
import Derived.Deep.AppendLies
import Derived.Maps.AppendAt
import Derived.OwnWalk
import Derived.Laws.BytesArg
import Derived.Laws.MakeOwn
import Derived.Laws.OwnMore
import Derived.Deep.OwnRows
import Derived.Tactics
import Derived.Lib.ConvBytes
import Derived.Laws.Slices
import Derived.WalkKit
import Derived.KernelRfl
import Derived.RowKit3
import Derived.Deep.LoopGhost
import Derived.Deep.QuietTactic
import Derived.BigQuiet
import Derived.WideLaws
import Derived.Deep.DeepCutAuto
import Derived.Deep.CutBlock
import Derived.Deep.RegionHeld3
import Derived.Laws.Rows
import Derived.Lib.AppendStr
import Derived.Laws.IdiomCopy
import Derived.OrdersHeld
import Derived.Laws.BitsLemmas
import Derived.RowKit
import Derived.Test.YtdbbcngmnpejnaaDoorWWords
import Derived.Test.YtdbbcngmnpejnaaDoorWLast
import Derived.Test.YtdbbcngmnpejnaaDoorWTab
import Derived.Test.YtdbbcngmnpejnaaDoorWRepsOne
import Derived.Test.YtdbbcngmnpejnaaDoorWGuard
import Derived.Test.YtdbbcngmnpejnaaDoorRows
import Derived.ProofKit
import Derived.LaidMore
import Derived.OpenShut
import Derived.Stop.Joined
import Derived.Deep.Slices
import Derived.ChangeSame
import Derived.Test.YtdbbcngmnpejnaaDoorCards
import Derived.Test.YtdbbcngmnpejnaaDoorTie
import Derived.SevenTiedAt
import Derived.ShutString
import Derived.ChangeOld
import Derived.SizedLaws
import Derived.Test.YtdbbcngmnpejnaaDoorWSized
/- with, the closure of Closure, and Closure, walked. (Printed by gen_d23.py.) -/
namespace Go.Proofs.YtdbbcngmnpejnaaDoor.B
open Go.Proofs.YtdbbcngmnpejnaaDoor.A
open Go.RowKit Go.Proofs.YtdbbcngmnpejnaaDoorW.PrintWords Go.Proofs.YtdbbcngmnpejnaaDoorW.PrintMore
/-- The two other triples of the beasts of one. -/
def othA (x : S44) : S44 := ⟨if x.f2 < x.f0 then x.f2 else x.f0, if x.f0 < x.f2 then x.f2 else x.f0, x.f1⟩
def othB (x : S44) : S44 := ⟨if x.f2 < x.f1 then x.f2 else x.f1, if x.f1 < x.f2 then x.f2 else x.f1, x.f0⟩
theorem repsN44 (x : S44) {W : World} {b : Nat} {ok : Nat → Prop} : Reps (k44.M W b ok) k44.sz [x] [.int .i64 x.f0, .int .i64 x.f1, .int .i64 x.f2] := by
  refine ⟨rfl, fun j q hq => ?_⟩
  cases j with
  | zero =>
    cases hq
    exact k44_mkM W b ok x
  | succ j => simp at hq
theorem below_grown0 {w w1 w2 : World} {B : Nat} (h : Below B w w1) (hB : B ≤ w1.heap.size) (hg : w1.grownBy w2 none) : Below B w w2 := pw_below_grown h _ hB hg (fun _ hk => by cases hk)
theorem append44_run {W : World} {A : Option Addr} {n : Nat} {l : List S44} (p : S44) (ty : TypeId) (hC : Kd.C k44 W A n l) (hn : n ≤ 1000) :
    ∃ v1 w1, (Builtin.append_ #[27, 27] ty #[.slice A n n, .slice (some ⟨W.heap.size, 0, none⟩) 1 1]).run Tryd.prog (W.alloc (.cells #[.int .i64 p.f0, .int .i64 p.f1, .int .i64 p.f2] 44)) = .ok v1 w1 ∧ Kd.R k44 44 w1 W.heap.size (fun _ => True) v1 (l ++ [p]) ∧ Below W.heap.size W w1 := by
  obtain ⟨i0, hi, hzz⟩ := Option.map_eq_some_iff.1 info44
  simp only [Prod.mk.injEq] at hzz
  obtain ⟨hz0, hz1, hz2⟩ := hzz
  have hnl : l.length = n := hC.1
  have hBA : Below W.heap.size W (W.alloc (.cells #[.int .i64 p.f0, .int .i64 p.f1, .int .i64 p.f2] 44)) := (Below.refl _ _).alloc (Nat.le_refl _) _
  have hnews := World.news_of_block (cs := #[.int .i64 p.f0, .int .i64 p.f1, .int .i64 p.f2]) (t := 44) (fr := (0, 0)) (heap_alloc_new W (.cells #[.int .i64 p.f0, .int .i64 p.f1, .int .i64 p.f2] 44))
  have key : ∃ (inner : List Value) (v1 : Value) (w1 : World), (Builtin.append_ #[27, 27] ty #[.slice A n n, .slice (some ⟨W.heap.size, 0, none⟩) 1 1]).run Tryd.prog (W.alloc (.cells #[.int .i64 p.f0, .int .i64 p.f1, .int .i64 p.f2] 44)) = .ok v1 w1 ∧ w1.ownsRow (W.heap.size + 1) 44 3 v1 (n + 1) (inner ++ [.int .i64 p.f0, .int .i64 p.f1, .int .i64 p.f2]) ∧ (W.alloc (.cells #[.int .i64 p.f0, .int .i64 p.f1, .int .i64 p.f2] 44)).grownBy w1 none ∧ ∀ W' b ok, Reps (k44.M W' b ok) k44.sz l inner := by
    rcases A with _ | b
    · have h0 : n = 0 := by
        rcases Nat.eq_zero_or_pos n with h0 | h0
        · exact h0
        · obtain ⟨ad, h, _⟩ := hC.2.2 h0
          cases h
      subst h0
      obtain rfl : l = [] := List.eq_nil_of_length_eq_zero hnl
      obtain ⟨v1, w1, h1, h2, h3, _⟩ := run_append_own_at (P := Tryd.prog) (W.alloc (.cells #[.int .i64 p.f0, .int .i64 p.f1, .int .i64 p.f2] 44)) (W.heap.size + 1) 27 ty 44 i0 (.agg #[.int .i64 0, .int .i64 0, .int .i64 0]) 3 24 Tryd.underlying27 hi hz0 hz1 hz2 rfl (by decide) (.slice none 0 0) 0 [] (own_nil _ _ _ _) ⟨W.heap.size, 0, none⟩ 1 1 [.int .i64 p.f0, .int .i64 p.f1, .int .i64 p.f2] rfl hnews (by intro u hu; simp at hu; rcases hu with rfl | rfl | rfl <;> rfl) (by decide) (by decide) (by simp)
      exact ⟨[], v1, w1, h1, h2, h3, fun W' b ok => Reps.none _ _⟩
    · obtain ⟨inner, hr, hc⟩ := ReadsRow.inner_ hC
      have hlen : inner.length = n * 3 := by
        have := hr.1
        rw [hnl] at this
        exact this
      have holds : ∀ j u, inner[j]? = some u → (W.alloc (.cells #[.int .i64 p.f0, .int .i64 p.f1, .int .i64 p.f2] 44)).cell? (b.add j) = some u := fun j u hu => pw_cell_below hBA (hc j u hu)
      obtain ⟨v1, w1, h1, h2, h3⟩ := run_append_arg_grows (P := Tryd.prog) (w := W.alloc (.cells #[.int .i64 p.f0, .int .i64 p.f1, .int .i64 p.f2] 44)) 27 ty 44 i0 (.agg #[.int .i64 0, .int .i64 0, .int .i64 0]) 3 24 Tryd.underlying27 hi hz0 hz1 hz2 rfl (by decide) b n n inner hlen holds ⟨W.heap.size, 0, none⟩ 1 1 [.int .i64 p.f0, .int .i64 p.f1, .int .i64 p.f2] rfl hnews (by omega) (by simp only [maxLen]; omega) (by omega)
      exact ⟨inner, v1, w1, h1, by simpa using h2, h3, fun W' b ok => hr.imp_ fun x cs hp => by rw [k44_open hp]; exact k44_mkM _ _ _ x⟩
  obtain ⟨inner, v1, w1, h1, h2, h3, h4⟩ := key
  refine ⟨v1, w1, h1, ⟨fun _ _ => trivial, inner ++ [.int .i64 p.f0, .int .i64 p.f1, .int .i64 p.f2], ?_, ?_⟩, below_grown0 hBA hBA.size h3⟩
  · have hl : (l ++ [p]).length = n + 1 := by rw [List.length_append, hnl]; rfl
    rw [hl]
    exact own_weaken h2 (by omega)
  · exact Kd.reps_append (h4 _ _ _) (repsN44 p)
section
variable {ops : Array Oper} {rest : List Oper} {o : Oper} {a : Act} {Q : Exit → Act → World → Prop}
theorem wp_append44 {W : World} {A : Option Addr} {n : Nat} {l : List S44} (p : S44) (hgd : o.guard = none) (s x : Operand) (ho : o.op = .call { callee := .builtin .append, args := #[s, x], argTypes := #[27, 27] })
    (hs : a.eval s = .slice A n n) (hx : a.eval x = .slice (some ⟨W.heap.size, 0, none⟩) 1 1) (hC : Kd.C k44 W A n l) (hn : n ≤ 1000)
    (h : ∀ v1 w1, Kd.R k44 44 w1 W.heap.size (fun _ => True) v1 (l ++ [p]) → Below W.heap.size W w1 → wpList Tryd.prog ops Q rest (a.put o.dst v1) w1) :
    wpList Tryd.prog ops Q (o :: rest) a (W.alloc (.cells #[.int .i64 p.f0, .int .i64 p.f1, .int .i64 p.f2] 44)) := by
  obtain ⟨v1, w1, hr, h1, h2⟩ := append44_run p o.type hC hn
  refine wpList_plain hgd fun K hK => ?_
  unfold Oper.wp execOp
  simp only [ho, resolve, invoke, builtin, Sem.run_bind, Sem.run_pure, Result.andThen_ok, List.map_toArray, List.map_cons, List.map_nil, hs, hx, hr]
  exact hK _ _ (h v1 w1 h1 h2)
end
section
attribute [local go_sem] max2_int min2_int max_two min_two
set_option maxRecDepth 100000 in
set_option maxHeartbeats 3200000 in
theorem with_calls (A : Option Addr) (c : Nat) (l : List S44) (x0 x1 x2 : Int) (hl : l.length ≤ 1000) (hc : l.length ≤ c) (W : World) (hr : Kd.C k44 W A l.length l) :
    Calls Tryd.prog 68 #[.slice A l.length c, .int .i64 x0, .int .i64 x1, .int .i64 x2] W fun e w' => ∃ v, e = .returned v ∧ Kd.R k44 44 w' W.heap.size (fun _ => True) v (l ++ [⟨if x1 < x0 then x1 else x0, if x0 < x1 then x1 else x0, x2⟩]) ∧ Below W.heap.size W w' := by
  have HR := Aside0.mk hr
  obtain ⟨len, hlen⟩ : ∃ len, l.length = len := ⟨_, rfl⟩
  have HL := Aside0.mk hlen
  rw [hlen] at hl hc HR ⊢
  clear hr hlen
  rcases Int.lt_trichotomy x0 x1 with h | h | h
  · have h1 : ¬ x1 < x0 := by omega
    rw [if_neg h1, if_pos h]
    go_enter Tryd.func68, Tryd.ntmps68
    go_wp2_with (at_builtin; go_must (refine wp_append44 (W := W) (⟨x0, x1, x2⟩ : S44) rfl (.tmp 14) (.tmp 23) rfl rfl rfl HR.out hl ?_; intro v1 w1 hR1 hb1; have HR1 := Aside0.mk hR1; have HB1 := Aside0.mk hb1; clear hR1 hb1))
    go_ret
    exact ⟨v1, rfl, HR1.out, HB1.out⟩
  · subst h
    rw [if_neg (Int.lt_irrefl _)]
    go_enter Tryd.func68, Tryd.ntmps68
    go_wp2_with (at_builtin; go_must (refine wp_append44 (W := W) (⟨x0, x0, x2⟩ : S44) rfl (.tmp 14) (.tmp 23) rfl rfl rfl HR.out hl ?_; intro v1 w1 hR1 hb1; have HR1 := Aside0.mk hR1; have HB1 := Aside0.mk hb1; clear hR1 hb1))
    go_ret
    exact ⟨v1, rfl, HR1.out, HB1.out⟩
  · have h1 : ¬ x0 < x1 := by omega
    rw [if_neg h1, if_pos h]
    go_enter Tryd.func68, Tryd.ntmps68
    go_wp2_with (at_builtin; go_must (refine wp_append44 (W := W) (⟨x1, x0, x2⟩ : S44) rfl (.tmp 14) (.tmp 23) rfl rfl rfl HR.out hl ?_; intro v1 w1 hR1 hb1; have HR1 := Aside0.mk hR1; have HB1 := Aside0.mk hb1; clear hR1 hb1))
    go_ret
    exact ⟨v1, rfl, HR1.out, HB1.out⟩
end
end Go.Proofs.YtdbbcngmnpejnaaDoor.B

/- The closure of Closure, and Closure, walked. (Printed by gen_d24.py.) -/
namespace Go.Proofs.YtdbbcngmnpejnaaDoor.B
open Go.Proofs.YtdbbcngmnpejnaaDoor.A
open Go.RowKit Go.Proofs.YtdbbcngmnpejnaaDoorW.PrintWords Go.Proofs.YtdbbcngmnpejnaaDoorW.PrintMore
/-- Can a tree be built with one triple more? -/
def canB (l : List S44) (s : Nat) (x : S44) : Bool := (buildF (l ++ [x]) 9 s).isSome
/-- What is left out: one of the other two triples can be added. -/
def openB (l : List S44) (s : Nat) (x : S44) : Bool := canB l s (othA x) || canB l s (othB x)
theorem othA_8 {x : S44} (h : Tri8 x) : Tri8 (othA x) := by
  obtain ⟨h1, h2, h3⟩ := h
  unfold othA Tri8
  dsimp only
  refine ⟨?_, ?_, h2⟩ <;> split <;> omega
theorem othB_8 {x : S44} (h : Tri8 x) : Tri8 (othB x) := by
  obtain ⟨h1, h2, h3⟩ := h
  unfold othB Tri8
  dsimp only
  refine ⟨?_, ?_, h1⟩ <;> split <;> omega
theorem snoc_8 {l : List S44} (hl : ∀ t ∈ l, Tri8 t) {x : S44} (hx : Tri8 x) : ∀ t ∈ l ++ [x], Tri8 t := fun t ht => by
  rcases List.mem_append.mp ht with h | h
  · exact hl t h
  · rw [List.mem_singleton.mp h]; exact hx
theorem enters67 (args : Array Value) (w : World) : (callFunc 67 args).run Tryd.prog w = .ok (.enter 67 args) w := by kernel_rfl
theorem bset {z : Bool} {a b : Bool} (h : (a || b) = z) : (a = true ∧ z = true) ∨ (a = false ∧ b = true ∧ z = true) ∨ (a = false ∧ b = false ∧ z = false) := by
  cases a <;> cases b <;> simp_all
set_option maxRecDepth 100000 in
set_option maxHeartbeats 6400000 in
theorem clo67W (A : Option Addr) (c : Nat) (l : List S44) (hl : ∀ t ∈ l, Tri8 t) (hn : l.length ≤ 100) (hc : l.length ≤ c) (s : Nat) (h0 : s ≠ 0) (h8 : s < 256) (all : List S44) (ha : ∀ x ∈ all, Tri8 x) (b1 b2 : Nat) (w : World) (h1 : w.cell? ⟨b1, 0, none⟩ = some (.slice A l.length c)) (h2 : w.cell? ⟨b2, 0, none⟩ = some (.int .i64 (s : Int))) (hr : Kd.C k44 w A l.length l) (hT : TabAt w) :
    PredW 67 #[.pointer (some ⟨b1, 0, none⟩), .pointer (some ⟨b2, 0, none⟩)] (openB l s) all w := by
  intro W x hx hb
  have HBW := Aside0.mk hb
  have HR := Aside0.mk (Kd.C_below hr hb)
  have HT := Aside0.mk (hT.next hb)
  have p0' := pw_cell_below hb h1
  have p1' := pw_cell_below hb h2
  have hx8 := ha x hx
  have hpc : pcN s 8 < 9 := by have := pcN_le s 8; omega
  obtain ⟨len, hlen⟩ : ∃ len, l.length = len := ⟨_, rfl⟩
  have HWI : Aside0 (∀ (a b d : Int) (y : S44), y = ⟨if b < a then b else a, if a < b then b else a, d⟩ → ∀ w1, Below W.heap.size W w1 → Calls Tryd.prog 68 #[.slice A len c, .int .i64 a, .int .i64 b, .int .i64 d] w1 fun e w' => ∃ A' c', len + 1 ≤ c' ∧ e = .returned (.slice A' (len + 1) c') ∧ Kd.C k44 w' A' (len + 1) (l ++ [y]) ∧ Below w1.heap.size w1 w') := ⟨fun a b d y hy w1 h => by
    have hw := with_calls A c l a b d (by omega) hc w1 (Kd.C_below HR.out h)
    rw [← hy, hlen] at hw
    refine hw.mono ?_
    rintro e w' ⟨v, rfl, hR, hb⟩
    obtain ⟨A', c', rfl, hc', hC'⟩ := Kd.R_reads hR
    have hll : (l ++ [y]).length = len + 1 := by rw [List.length_append, hlen]; rfl
    rw [hll] at hc' hC' ⊢
    exact ⟨A', c', hc', rfl, hC', hb⟩⟩
  have HBI : Aside0 (∀ y, Tri8 y → ∀ w1 A' c', Below W.heap.size W w1 → len + 1 ≤ c' → Kd.C k44 w1 A' (len + 1) (l ++ [y]) → Calls Tryd.prog 44 #[.slice A' (len + 1) c', .int .i64 (s : Int)] w1 (TreePost (buildF (l ++ [y]) 9 s) w1)) := ⟨fun y hy w1 A' c' h hc' hC => by
    have hll : (l ++ [y]).length = len + 1 := by rw [List.length_append, hlen]; rfl
    have hbu := build_calls A' c' (l ++ [y]) (snoc_8 hl hy) (by rw [hll]; omega) 9 s w1 h0 h8 hpc (by rw [hll]; exact hC) (HT.out.next h)
    rw [hll] at hbu
    exact hbu⟩
  have HBY : Aside0 (∀ y, Tri8 y → canB l s y = true → ∀ w1 A' c', Below W.heap.size W w1 → len + 1 ≤ c' → Kd.C k44 w1 A' (len + 1) (l ++ [y]) → Calls Tryd.prog 44 #[.slice A' (len + 1) c', .int .i64 (s : Int)] w1 fun e w' => ∃ T u, e = .returned (.iface T u) ∧ Below w1.heap.size w1 w') := ⟨fun y hy hz w1 A' c' h hc' hC => (HBI.out y hy w1 A' c' h hc' hC).mono (by
    rintro e w' ⟨⟨h, _⟩ | ⟨t', v, h, rfl, ht⟩, hb⟩
    · unfold canB at hz; rw [h] at hz; cases hz
    · obtain ⟨T, u, rfl, _⟩ := ht.ask
      exact ⟨T, u, rfl, hb⟩)⟩
  have HBN : Aside0 (∀ y, Tri8 y → canB l s y = false → ∀ w1 A' c', Below W.heap.size W w1 → len + 1 ≤ c' → Kd.C k44 w1 A' (len + 1) (l ++ [y]) → Calls Tryd.prog 44 #[.slice A' (len + 1) c', .int .i64 (s : Int)] w1 fun e w' => e = .returned .nilIface ∧ Below w1.heap.size w1 w') := ⟨fun y hy hz w1 A' c' h hc' hC => (HBI.out y hy w1 A' c' h hc' hC).mono (by
    rintro e w' ⟨⟨_, rfl⟩ | ⟨t', v, h, rfl, ht⟩, hb⟩
    · exact ⟨rfl, hb⟩
    · unfold canB at hz; rw [h] at hz; cases hz)⟩
  rw [hlen] at p0'
  have HX8 := Aside0.mk hx8
  show Calls Tryd.prog 67 #[enc44 x, .pointer (some ⟨b1, 0, none⟩), .pointer (some ⟨b2, 0, none⟩)] W fun e w' => e = .returned (.bool (openB l s x)) ∧ Below W.heap.size W w'
  obtain ⟨z, hz⟩ : ∃ z, openB l s x = z := ⟨_, rfl⟩
  rw [hz]
  have hcs := bset hz
  have HA8 := Aside0.mk (othA_8 hx8)
  have HB8 := Aside0.mk (othB_8 hx8)
  obtain ⟨ya, hya⟩ : ∃ ya, othA x = ya := ⟨_, rfl⟩
  obtain ⟨yb, hyb⟩ : ∃ yb, othB x = yb := ⟨_, rfl⟩
  rw [hya, hyb] at hcs
  rw [hya] at HA8
  rw [hyb] at HB8
  obtain ⟨x0, x1, x2⟩ := x
  have HWA := Aside0.mk (HWI.out x0 x2 x1 ya (by rw [← hya]; rfl))
  have HWB := Aside0.mk (HWI.out x1 x2 x0 yb (by rw [← hyb]; rfl))
  unfold enc44
  dsimp only
  obtain ⟨P, hP⟩ : ∃ P : Int, (s : Int) = P := ⟨_, rfl⟩
  rw [hP] at p1' HBY HBN
  clear hx hb h1 h2 hr hT hx8 hpc HBI HWI hya hyb hz hP HR HT HX8 ha hl
  rcases hcs with ⟨k1, rfl⟩ | ⟨k1, k2, rfl⟩ | ⟨k1, k2, rfl⟩
  · have HW1 := HWA
    have HB1 := Aside0.mk (fun w1 A' c' hb hc hC => HBY.out ya HA8.out k1 w1 A' c' hb hc hC)
    clear HBY HBN HWA HWB k1
    go_enter Tryd.func67, Tryd.ntmps67
    go_upto_region 1 with fail
    have HNEW : Aside0 ((W.alloc (.cells #[.int .i64 x0, .int .i64 x1, .int .i64 x2] 44)).heap[W.heap.size]? = some (.cells #[.int .i64 x0, .int .i64 x1, .int .i64 x2] 44 (0, 0))) := ⟨heap_alloc_new W _⟩
    have HBZ : Aside0 (Below W.heap.size W (W.alloc (.cells #[.int .i64 x0, .int .i64 x1, .int .i64 x2] 44))) := ⟨(Below.refl _ _).alloc (Nat.le_refl _) _⟩
    generalize W.alloc (.cells #[.int .i64 x0, .int .i64 x1, .int .i64 x2] 44) = w4 at HNEW HBZ ⊢
    generalize hgb : W.heap.size = gb at HNEW ⊢
    have HGB := Aside0.mk hgb
    clear hgb
    obtain ⟨p2, p3, p4, _⟩ := cells3 HNEW.out
    have p0 := pw_cell_below HBZ.out p0'
    have p1 := pw_cell_below HBZ.out p1'
    clear p0' p1'
    replace HW1 := Aside0.mk (fun w1 (hb : Below w4.heap.size w4 w1) => HW1.out w1 (below_then HBZ.out HBZ.out.size hb))
    replace HB1 := Aside0.mk (fun w1 A' c' (hb : Below w4.heap.size w4 w1) hc hC => HB1.out w1 A' c' (below_then HBZ.out HBZ.out.size hb) hc hC)
    have HBr : Aside0 (Below w4.heap.size w4 w4.drew) := ⟨below_drew (Below.refl _ _)⟩
    refine wp_region_noPanic ?_
    refine wp_region_held_drew (S := fun w' => w'.cell? ⟨b1, 0, none⟩ = some (.slice A len c) ∧ w'.cell? ⟨b2, 0, none⟩ = some (.int .i64 P) ∧ w'.cell? ⟨gb, 0, none⟩ = some (.int .i64 x0) ∧ w'.cell? ⟨gb, 1, none⟩ = some (.int .i64 x1) ∧ w'.cell? ⟨gb, 2, none⟩ = some (.int .i64 x2)) (by kernel_rfl) (⟨p0, p1, p2, p3, p4⟩) (fun hHeld => ?_)
    refine H_on 0 5 ?vf0 rfl rfl (by kernel_rfl) (by kernel_rfl) (by kernel_rfl) (by rfl) ?hf0 hHeld ?rf0
    case hf0 => (intro w hSw; obtain ⟨s0, s1, s2, s3, s4⟩ := hSw; go_simp <;> with_reducible rfl)
    simp only [Act.put, List.setIfInBounds_toArray, List.set_cons_zero, List.set_cons_succ]
    refine H_on 1 6 ?vf1 rfl rfl (by kernel_rfl) (by kernel_rfl) (by kernel_rfl) (by rfl) ?hf1 hHeld ?rf1
    case hf1 => (intro w hSw; obtain ⟨s0, s1, s2, s3, s4⟩ := hSw; go_simp <;> with_reducible rfl)
    simp only [Act.put, List.setIfInBounds_toArray, List.set_cons_zero, List.set_cons_succ]
    refine H_on 2 7 ?vf2 rfl rfl (by kernel_rfl) (by kernel_rfl) (by kernel_rfl) (by rfl) ?hf2 hHeld ?rf2
    case hf2 => (intro w hSw; obtain ⟨s0, s1, s2, s3, s4⟩ := hSw; go_simp <;> with_reducible rfl)
    simp only [Act.put, List.setIfInBounds_toArray, List.set_cons_zero, List.set_cons_succ]
    refine H_on 3 8 ?vf3 rfl rfl (by kernel_rfl) (by kernel_rfl) (by kernel_rfl) (by rfl) ?hf3 hHeld ?rf3
    case hf3 => (intro w hSw; obtain ⟨s0, s1, s2, s3, s4⟩ := hSw; go_simp <;> with_reducible rfl)
    simp only [Act.put, List.setIfInBounds_toArray, List.set_cons_zero, List.set_cons_succ]
    refine H_on 4 9 ?vf4 rfl rfl (by kernel_rfl) (by kernel_rfl) (by kernel_rfl) (by rfl) ?hf4 hHeld ?rf4
    case hf4 => (intro w hSw; obtain ⟨s0, s1, s2, s3, s4⟩ := hSw; go_simp <;> with_reducible rfl)
    simp only [Act.put, List.setIfInBounds_toArray, List.set_cons_zero, List.set_cons_succ]
    refine H_on 5 10 ?vf5 rfl rfl (by kernel_rfl) (by kernel_rfl) (by kernel_rfl) (by rfl) ?hf5 hHeld ?rf5
    case hf5 => (intro w hSw; obtain ⟨s0, s1, s2, s3, s4⟩ := hSw; go_simp <;> with_reducible rfl)
    simp only [Act.put, List.setIfInBounds_toArray, List.set_cons_zero, List.set_cons_succ]
    refine H_on 6 11 ?vf6 rfl rfl (by kernel_rfl) (by kernel_rfl) (by kernel_rfl) (by rfl) ?hf6 hHeld ?rf6
    case hf6 => (intro w hSw; obtain ⟨s0, s1, s2, s3, s4⟩ := hSw; go_simp <;> with_reducible rfl)
    simp only [Act.put, List.setIfInBounds_toArray, List.set_cons_zero, List.set_cons_succ]
    refine H_on 8 13 ?vf8 rfl rfl (by kernel_rfl) (by kernel_rfl) (by kernel_rfl) (by rfl) ?hf8 hHeld ?rf8
    case hf8 => (intro w hSw; obtain ⟨s0, s1, s2, s3, s4⟩ := hSw; go_simp <;> with_reducible rfl)
    simp only [Act.put, List.setIfInBounds_toArray, List.set_cons_zero, List.set_cons_succ]
    refine wpAnyH_ready (rs := [7]) (by kernel_rfl) (by simp) ?_
    refine AllReadyH.cons rfl (fun K hK => ?_) AllReadyH.nil
    go_simp
    refine (HW1.out _ HBr.out).mono ?_
    rintro e wa ⟨A5, c5, hc5, rfl, hC5, hb⟩
    replace HBr : Aside0 (Below w4.heap.size w4 wa) := ⟨below_then HBr.out HBr.out.size hb⟩
    clear hb
    try clear q0 q1 q2 q3 q4
    have q0 : wa.cell? ⟨b1, 0, none⟩ = some (.slice A len c) := pw_cell_below HBr.out p0
    have q1 : wa.cell? ⟨b2, 0, none⟩ = some (.int .i64 P) := pw_cell_below HBr.out p1
    have q2 : wa.cell? ⟨gb, 0, none⟩ = some (.int .i64 x0) := pw_cell_below HBr.out p2
    have q3 : wa.cell? ⟨gb, 1, none⟩ = some (.int .i64 x1) := pw_cell_below HBr.out p3
    have q4 : wa.cell? ⟨gb, 2, none⟩ = some (.int .i64 x2) := pw_cell_below HBr.out p4
    go_wp2_with fail
    refine hK.out _ _ (⟨q0, q1, q2, q3, q4⟩) (fun hHeld => ?_)
    clear hK K
    try simp only [Act.put, List.setIfInBounds_toArray, List.set_cons_zero, List.set_cons_succ]
    refine wpAnyH_ready (rs := [9]) (by kernel_rfl) (by simp) ?_
    refine AllReadyH.cons rfl (fun K hK => ?_) AllReadyH.nil
    go_simp
    refine (HB1.out _ A5 c5 HBr.out hc5 hC5).mono ?_
    rintro e wb ⟨T, u, rfl, hb⟩
    replace HBr : Aside0 (Below w4.heap.size w4 wb) := ⟨below_then HBr.out HBr.out.size hb⟩
    clear hb
    try clear q0 q1 q2 q3 q4
    have q0 : wb.cell? ⟨b1, 0, none⟩ = some (.slice A len c) := pw_cell_below HBr.out p0
    have q1 : wb.cell? ⟨b2, 0, none⟩ = some (.int .i64 P) := pw_cell_below HBr.out p1
    have q2 : wb.cell? ⟨gb, 0, none⟩ = some (.int .i64 x0) := pw_cell_below HBr.out p2
    have q3 : wb.cell? ⟨gb, 1, none⟩ = some (.int .i64 x1) := pw_cell_below HBr.out p3
    have q4 : wb.cell? ⟨gb, 2, none⟩ = some (.int .i64 x2) := pw_cell_below HBr.out p4
    go_wp2_with fail
    refine hK.out _ _ (⟨q0, q1, q2, q3, q4⟩) (fun hHeld => ?_)
    clear hK K
    try simp only [Act.put, List.setIfInBounds_toArray, List.set_cons_zero, List.set_cons_succ]
    refine H_on 10 15 ?vf10 rfl rfl (by kernel_rfl) (by kernel_rfl) (by kernel_rfl) (by rfl) ?hf10 hHeld ?rf10
    case hf10 => (intro w hSw; obtain ⟨s0, s1, s2, s3, s4⟩ := hSw; go_simp <;> with_reducible rfl)
    simp only [Act.put, List.setIfInBounds_toArray, List.set_cons_zero, List.set_cons_succ]
    refine H_on 11 16 ?vf11 rfl rfl (by kernel_rfl) (by kernel_rfl) (by kernel_rfl) (by rfl) ?hf11 hHeld ?rf11
    case hf11 => (intro w hSw; obtain ⟨s0, s1, s2, s3, s4⟩ := hSw; go_simp <;> with_reducible rfl)
    simp only [Act.put, List.setIfInBounds_toArray, List.set_cons_zero, List.set_cons_succ]
    refine H_off 12 17 rfl rfl (by kernel_rfl) (by kernel_rfl) (by kernel_rfl) (by rfl) hHeld ?_
    simp only [Act.put, List.setIfInBounds_toArray, List.set_cons_zero, List.set_cons_succ]
    refine H_off 13 18 rfl rfl (by kernel_rfl) (by kernel_rfl) (by kernel_rfl) (by rfl) hHeld ?_
    simp only [Act.put, List.setIfInBounds_toArray, List.set_cons_zero, List.set_cons_succ]
    refine H_off 14 19 rfl rfl (by kernel_rfl) (by kernel_rfl) (by kernel_rfl) (by rfl) hHeld ?_
    simp only [Act.put, List.setIfInBounds_toArray, List.set_cons_zero, List.set_cons_succ]
    refine H_off 15 20 rfl rfl (by kernel_rfl) (by kernel_rfl) (by kernel_rfl) (by rfl) hHeld ?_
    simp only [Act.put, List.setIfInBounds_toArray, List.set_cons_zero, List.set_cons_succ]
    refine H_off 16 21 rfl rfl (by kernel_rfl) (by kernel_rfl) (by kernel_rfl) (by rfl) hHeld ?_
    simp only [Act.put, List.setIfInBounds_toArray, List.set_cons_zero, List.set_cons_succ]
    refine H_off 17 22 rfl rfl (by kernel_rfl) (by kernel_rfl) (by kernel_rfl) (by rfl) hHeld ?_
    simp only [Act.put, List.setIfInBounds_toArray, List.set_cons_zero, List.set_cons_succ]
    refine H_off 18 23 rfl rfl (by kernel_rfl) (by kernel_rfl) (by kernel_rfl) (by rfl) hHeld ?_
    simp only [Act.put, List.setIfInBounds_toArray, List.set_cons_zero, List.set_cons_succ]
    refine H_off 19 24 rfl rfl (by kernel_rfl) (by kernel_rfl) (by kernel_rfl) (by rfl) hHeld ?_
    simp only [Act.put, List.setIfInBounds_toArray, List.set_cons_zero, List.set_cons_succ]
    refine H_off 20 25 rfl rfl (by kernel_rfl) (by kernel_rfl) (by kernel_rfl) (by rfl) hHeld ?_
    simp only [Act.put, List.setIfInBounds_toArray, List.set_cons_zero, List.set_cons_succ]
    refine H_off 21 26 rfl rfl (by kernel_rfl) (by kernel_rfl) (by kernel_rfl) (by rfl) hHeld ?_
    simp only [Act.put, List.setIfInBounds_toArray, List.set_cons_zero, List.set_cons_succ]
    refine H_off 22 27 rfl rfl (by kernel_rfl) (by kernel_rfl) (by kernel_rfl) (by rfl) hHeld ?_
    simp only [Act.put, List.setIfInBounds_toArray, List.set_cons_zero, List.set_cons_succ]
    refine H_on 23 28 ?vf23 rfl rfl (by kernel_rfl) (by kernel_rfl) (by kernel_rfl) (by rfl) ?hf23 hHeld ?rf23
    case hf23 => (intro w hSw; obtain ⟨s0, s1, s2, s3, s4⟩ := hSw; go_simp <;> with_reducible rfl)
    simp only [Act.put, List.setIfInBounds_toArray, List.set_cons_zero, List.set_cons_succ]
    refine H_on 24 4 ?vf24 rfl rfl (by kernel_rfl) (by kernel_rfl) (by kernel_rfl) (by rfl) ?hf24 hHeld ?rf24
    case hf24 => (intro w hSw; obtain ⟨s0, s1, s2, s3, s4⟩ := hSw; go_simp <;> with_reducible rfl)
    simp only [Act.put, List.setIfInBounds_toArray, List.set_cons_zero, List.set_cons_succ]
    refine wpAnyH_done (by kernel_rfl) ?_ _
    refine NoPanic.normal ?_
    clear hHeld
    go_wp2
    go_ret
    exact ⟨rfl, by first | exact below_then HBZ.out HBZ.out.size HBr.out | (rw [← HGB.out]; exact below_then HBZ.out HBZ.out.size HBr.out)⟩
  · have HW1 := HWA
    have HB1 := Aside0.mk (fun w1 A' c' hb hc hC => HBN.out ya HA8.out k1 w1 A' c' hb hc hC)
    have HW2 := HWB
    have HB2 := Aside0.mk (fun w1 A' c' hb hc hC => HBY.out yb HB8.out k2 w1 A' c' hb hc hC)
    clear HBY HBN HWA HWB k1 k2
    go_enter Tryd.func67, Tryd.ntmps67
    go_upto_region 1 with fail
    have HNEW : Aside0 ((W.alloc (.cells #[.int .i64 x0, .int .i64 x1, .int .i64 x2] 44)).heap[W.heap.size]? = some (.cells #[.int .i64 x0, .int .i64 x1, .int .i64 x2] 44 (0, 0))) := ⟨heap_alloc_new W _⟩
    have HBZ : Aside0 (Below W.heap.size W (W.alloc (.cells #[.int .i64 x0, .int .i64 x1, .int .i64 x2] 44))) := ⟨(Below.refl _ _).alloc (Nat.le_refl _) _⟩
    generalize W.alloc (.cells #[.int .i64 x0, .int .i64 x1, .int .i64 x2] 44) = w4 at HNEW HBZ ⊢
    generalize hgb : W.heap.size = gb at HNEW ⊢
    have HGB := Aside0.mk hgb
    clear hgb
    obtain ⟨p2, p3, p4, _⟩ := cells3 HNEW.out
    have p0 := pw_cell_below HBZ.out p0'
    have p1 := pw_cell_below HBZ.out p1'
    clear p0' p1'
    replace HW1 := Aside0.mk (fun w1 (hb : Below w4.heap.size w4 w1) => HW1.out w1 (below_then HBZ.out HBZ.out.size hb))
    replace HB1 := Aside0.mk (fun w1 A' c' (hb : Below w4.heap.size w4 w1) hc hC => HB1.out w1 A' c' (below_then HBZ.out HBZ.out.size hb) hc hC)
    replace HW2 := Aside0.mk (fun w1 (hb : Below w4.heap.size w4 w1) => HW2.out w1 (below_then HBZ.out HBZ.out.size hb))
    replace HB2 := Aside0.mk (fun w1 A' c' (hb : Below w4.heap.size w4 w1) hc hC => HB2.out w1 A' c' (below_then HBZ.out HBZ.out.size hb) hc hC)
    have HBr : Aside0 (Below w4.heap.size w4 w4.drew) := ⟨below_drew (Below.refl _ _)⟩
    refine wp_region_noPanic ?_
    refine wp_region_held_drew (S := fun w' => w'.cell? ⟨b1, 0, none⟩ = some (.slice A len c) ∧ w'.cell? ⟨b2, 0, none⟩ = some (.int .i64 P) ∧ w'.cell? ⟨gb, 0, none⟩ = some (.int .i64 x0) ∧ w'.cell? ⟨gb, 1, none⟩ = some (.int .i64 x1) ∧ w'.cell? ⟨gb, 2, none⟩ = some (.int .i64 x2)) (by kernel_rfl) (⟨p0, p1, p2, p3, p4⟩) (fun hHeld => ?_)
    refine H_on 0 5 ?vs0 rfl rfl (by kernel_rfl) (by kernel_rfl) (by kernel_rfl) (by rfl) ?hs0 hHeld ?rs0
    case hs0 => (intro w hSw; obtain ⟨s0, s1, s2, s3, s4⟩ := hSw; go_simp <;> with_reducible rfl)
    simp only [Act.put, List.setIfInBounds_toArray, List.set_cons_zero, List.set_cons_succ]
    refine H_on 1 6 ?vs1 rfl rfl (by kernel_rfl) (by kernel_rfl) (by kernel_rfl) (by rfl) ?hs1 hHeld ?rs1
    case hs1 => (intro w hSw; obtain ⟨s0, s1, s2, s3, s4⟩ := hSw; go_simp <;> with_reducible rfl)
    simp only [Act.put, List.setIfInBounds_toArray, List.set_cons_zero, List.set_cons_succ]
    refine H_on 2 7 ?vs2 rfl rfl (by kernel_rfl) (by kernel_rfl) (by kernel_rfl) (by rfl) ?hs2 hHeld ?rs2
    case hs2 => (intro w hSw; obtain ⟨s0, s1, s2, s3, s4⟩ := hSw; go_simp <;> with_reducible rfl)
    simp only [Act.put, List.setIfInBounds_toArray, List.set_cons_zero, List.set_cons_succ]
    refine H_on 3 8 ?vs3 rfl rfl (by kernel_rfl) (by kernel_rfl) (by kernel_rfl) (by rfl) ?hs3 hHeld ?rs3
    case hs3 => (intro w hSw; obtain ⟨s0, s1, s2, s3, s4⟩ := hSw; go_simp <;> with_reducible rfl)
    simp only [Act.put, List.setIfInBounds_toArray, List.set_cons_zero, List.set_cons_succ]
    refine H_on 4 9 ?vs4 rfl rfl (by kernel_rfl) (by kernel_rfl) (by kernel_rfl) (by rfl) ?hs4 hHeld ?rs4
    case hs4 => (intro w hSw; obtain ⟨s0, s1, s2, s3, s4⟩ := hSw; go_simp <;> with_reducible rfl)
    simp only [Act.put, List.setIfInBounds_toArray, List.set_cons_zero, List.set_cons_succ]
    refine H_on 5 10 ?vs5 rfl rfl (by kernel_rfl) (by kernel_rfl) (by kernel_rfl) (by rfl) ?hs5 hHeld ?rs5
    case hs5 => (intro w hSw; obtain ⟨s0, s1, s2, s3, s4⟩ := hSw; go_simp <;> with_reducible rfl)
    simp only [Act.put, List.setIfInBounds_toArray, List.set_cons_zero, List.set_cons_succ]
    refine H_on 6 11 ?vs6 rfl rfl (by kernel_rfl) (by kernel_rfl) (by kernel_rfl) (by rfl) ?hs6 hHeld ?rs6
    case hs6 => (intro w hSw; obtain ⟨s0, s1, s2, s3, s4⟩ := hSw; go_simp <;> with_reducible rfl)
    simp only [Act.put, List.setIfInBounds_toArray, List.set_cons_zero, List.set_cons_succ]
    refine H_on 8 13 ?vs8 rfl rfl (by kernel_rfl) (by kernel_rfl) (by kernel_rfl) (by rfl) ?hs8 hHeld ?rs8
    case hs8 => (intro w hSw; obtain ⟨s0, s1, s2, s3, s4⟩ := hSw; go_simp <;> with_reducible rfl)
    simp only [Act.put, List.setIfInBounds_toArray, List.set_cons_zero, List.set_cons_succ]
    refine wpAnyH_ready (rs := [7]) (by kernel_rfl) (by simp) ?_
    refine AllReadyH.cons rfl (fun K hK => ?_) AllReadyH.nil
    go_simp
    refine (HW1.out _ HBr.out).mono ?_
    rintro e wa ⟨A5, c5, hc5, rfl, hC5, hb⟩
    replace HBr : Aside0 (Below w4.heap.size w4 wa) := ⟨below_then HBr.out HBr.out.size hb⟩
    clear hb
    try clear q0 q1 q2 q3 q4
    have q0 : wa.cell? ⟨b1, 0, none⟩ = some (.slice A len c) := pw_cell_below HBr.out p0
    have q1 : wa.cell? ⟨b2, 0, none⟩ = some (.int .i64 P) := pw_cell_below HBr.out p1
    have q2 : wa.cell? ⟨gb, 0, none⟩ = some (.int .i64 x0) := pw_cell_below HBr.out p2
    have q3 : wa.cell? ⟨gb, 1, none⟩ = some (.int .i64 x1) := pw_cell_below HBr.out p3
    have q4 : wa.cell? ⟨gb, 2, none⟩ = some (.int .i64 x2) := pw_cell_below HBr.out p4
    go_wp2_with fail
    refine hK.out _ _ (⟨q0, q1, q2, q3, q4⟩) (fun hHeld => ?_)
    clear hK K
    try simp only [Act.put, List.setIfInBounds_toArray, List.set_cons_zero, List.set_cons_succ]
    refine wpAnyH_ready (rs := [9]) (by kernel_rfl) (by simp) ?_
    refine AllReadyH.cons rfl (fun K hK => ?_) AllReadyH.nil
    go_simp
    refine (HB1.out _ A5 c5 HBr.out hc5 hC5).mono ?_
    rintro e wb ⟨rfl, hb⟩
    replace HBr : Aside0 (Below w4.heap.size w4 wb) := ⟨below_then HBr.out HBr.out.size hb⟩
    clear hb
    try clear q0 q1 q2 q3 q4
    have q0 : wb.cell? ⟨b1, 0, none⟩ = some (.slice A len c) := pw_cell_below HBr.out p0
    have q1 : wb.cell? ⟨b2, 0, none⟩ = some (.int .i64 P) := pw_cell_below HBr.out p1
    have q2 : wb.cell? ⟨gb, 0, none⟩ = some (.int .i64 x0) := pw_cell_below HBr.out p2
    have q3 : wb.cell? ⟨gb, 1, none⟩ = some (.int .i64 x1) := pw_cell_below HBr.out p3
    have q4 : wb.cell? ⟨gb, 2, none⟩ = some (.int .i64 x2) := pw_cell_below HBr.out p4
    go_wp2_with fail
    refine hK.out _ _ (⟨q0, q1, q2, q3, q4⟩) (fun hHeld => ?_)
    clear hK K
    try simp only [Act.put, List.setIfInBounds_toArray, List.set_cons_zero, List.set_cons_succ]
    refine H_on 10 15 ?vs10 rfl rfl (by kernel_rfl) (by kernel_rfl) (by kernel_rfl) (by rfl) ?hs10 hHeld ?rs10
    case hs10 => (intro w hSw; obtain ⟨s0, s1, s2, s3, s4⟩ := hSw; go_simp <;> with_reducible rfl)
    simp only [Act.put, List.setIfInBounds_toArray, List.set_cons_zero, List.set_cons_succ]
    refine H_on 11 16 ?vs11 rfl rfl (by kernel_rfl) (by kernel_rfl) (by kernel_rfl) (by rfl) ?hs11 hHeld ?rs11
    case hs11 => (intro w hSw; obtain ⟨s0, s1, s2, s3, s4⟩ := hSw; go_simp <;> with_reducible rfl)
    simp only [Act.put, List.setIfInBounds_toArray, List.set_cons_zero, List.set_cons_succ]
    refine H_on 12 17 ?vs12 rfl rfl (by kernel_rfl) (by kernel_rfl) (by kernel_rfl) (by rfl) ?hs12 hHeld ?rs12
    case hs12 => (intro w hSw; obtain ⟨s0, s1, s2, s3, s4⟩ := hSw; go_simp <;> with_reducible rfl)
    simp only [Act.put, List.setIfInBounds_toArray, List.set_cons_zero, List.set_cons_succ]
    refine H_on 13 18 ?vs13 rfl rfl (by kernel_rfl) (by kernel_rfl) (by kernel_rfl) (by rfl) ?hs13 hHeld ?rs13
    case hs13 => (intro w hSw; obtain ⟨s0, s1, s2, s3, s4⟩ := hSw; go_simp <;> with_reducible rfl)
    simp only [Act.put, List.setIfInBounds_toArray, List.set_cons_zero, List.set_cons_succ]
    refine H_on 14 19 ?vs14 rfl rfl (by kernel_rfl) (by kernel_rfl) (by kernel_rfl) (by rfl) ?hs14 hHeld ?rs14
    case hs14 => (intro w hSw; obtain ⟨s0, s1, s2, s3, s4⟩ := hSw; go_simp <;> with_reducible rfl)
    simp only [Act.put, List.setIfInBounds_toArray, List.set_cons_zero, List.set_cons_succ]
    refine H_on 15 20 ?vs15 rfl rfl (by kernel_rfl) (by kernel_rfl) (by kernel_rfl) (by rfl) ?hs15 hHeld ?rs15
    case hs15 => (intro w hSw; obtain ⟨s0, s1, s2, s3, s4⟩ := hSw; go_simp <;> with_reducible rfl)
    simp only [Act.put, List.setIfInBounds_toArray, List.set_cons_zero, List.set_cons_succ]
    refine H_on 16 21 ?vs16 rfl rfl (by kernel_rfl) (by kernel_rfl) (by kernel_rfl) (by rfl) ?hs16 hHeld ?rs16
    case hs16 => (intro w hSw; obtain ⟨s0, s1, s2, s3, s4⟩ := hSw; go_simp <;> with_reducible rfl)
    simp only [Act.put, List.setIfInBounds_toArray, List.set_cons_zero, List.set_cons_succ]
    refine H_on 17 22 ?vs17 rfl rfl (by kernel_rfl) (by kernel_rfl) (by kernel_rfl) (by rfl) ?hs17 hHeld ?rs17
    case hs17 => (intro w hSw; obtain ⟨s0, s1, s2, s3, s4⟩ := hSw; go_simp <;> with_reducible rfl)
    simp only [Act.put, List.setIfInBounds_toArray, List.set_cons_zero, List.set_cons_succ]
    refine H_on 18 23 ?vs18 rfl rfl (by kernel_rfl) (by kernel_rfl) (by kernel_rfl) (by rfl) ?hs18 hHeld ?rs18
    case hs18 => (intro w hSw; obtain ⟨s0, s1, s2, s3, s4⟩ := hSw; go_simp <;> with_reducible rfl)
    simp only [Act.put, List.setIfInBounds_toArray, List.set_cons_zero, List.set_cons_succ]
    refine H_on 20 25 ?vs20 rfl rfl (by kernel_rfl) (by kernel_rfl) (by kernel_rfl) (by rfl) ?hs20 hHeld ?rs20
    case hs20 => (intro w hSw; obtain ⟨s0, s1, s2, s3, s4⟩ := hSw; go_simp <;> with_reducible rfl)
    simp only [Act.put, List.setIfInBounds_toArray, List.set_cons_zero, List.set_cons_succ]
    refine wpAnyH_ready (rs := [19]) (by kernel_rfl) (by simp) ?_
    refine AllReadyH.cons rfl (fun K hK => ?_) AllReadyH.nil
    go_simp
    refine (HW2.out _ HBr.out).mono ?_
    rintro e wc ⟨A6, c6, hc6, rfl, hC6, hb⟩
    replace HBr : Aside0 (Below w4.heap.size w4 wc) := ⟨below_then HBr.out HBr.out.size hb⟩
    clear hb
    try clear q0 q1 q2 q3 q4
    have q0 : wc.cell? ⟨b1, 0, none⟩ = some (.slice A len c) := pw_cell_below HBr.out p0
    have q1 : wc.cell? ⟨b2, 0, none⟩ = some (.int .i64 P) := pw_cell_below HBr.out p1
    have q2 : wc.cell? ⟨gb, 0, none⟩ = some (.int .i64 x0) := pw_cell_below HBr.out p2
    have q3 : wc.cell? ⟨gb, 1, none⟩ = some (.int .i64 x1) := pw_cell_below HBr.out p3
    have q4 : wc.cell? ⟨gb, 2, none⟩ = some (.int .i64 x2) := pw_cell_below HBr.out p4
    go_wp2_with fail
    refine hK.out _ _ (⟨q0, q1, q2, q3, q4⟩) (fun hHeld => ?_)
    clear hK K
    try simp only [Act.put, List.setIfInBounds_toArray, List.set_cons_zero, List.set_cons_succ]
    refine wpAnyH_ready (rs := [21]) (by kernel_rfl) (by simp) ?_
    refine AllReadyH.cons rfl (fun K hK => ?_) AllReadyH.nil
    go_simp
    refine (HB2.out _ A6 c6 HBr.out hc6 hC6).mono ?_
    rintro e wd ⟨T, u, rfl, hb⟩
    replace HBr : Aside0 (Below w4.heap.size w4 wd) := ⟨below_then HBr.out HBr.out.size hb⟩
    clear hb
    try clear q0 q1 q2 q3 q4
    have q0 : wd.cell? ⟨b1, 0, none⟩ = some (.slice A len c) := pw_cell_below HBr.out p0
    have q1 : wd.cell? ⟨b2, 0, none⟩ = some (.int .i64 P) := pw_cell_below HBr.out p1
    have q2 : wd.cell? ⟨gb, 0, none⟩ = some (.int .i64 x0) := pw_cell_below HBr.out p2
    have q3 : wd.cell? ⟨gb, 1, none⟩ = some (.int .i64 x1) := pw_cell_below HBr.out p3
    have q4 : wd.cell? ⟨gb, 2, none⟩ = some (.int .i64 x2) := pw_cell_below HBr.out p4
    go_wp2_with fail
    refine hK.out _ _ (⟨q0, q1, q2, q3, q4⟩) (fun hHeld => ?_)
    clear hK K
    try simp only [Act.put, List.setIfInBounds_toArray, List.set_cons_zero, List.set_cons_succ]
    refine H_on 22 27 ?vs22 rfl rfl (by kernel_rfl) (by kernel_rfl) (by kernel_rfl) (by rfl) ?hs22 hHeld ?rs22
    case hs22 => (intro w hSw; obtain ⟨s0, s1, s2, s3, s4⟩ := hSw; go_simp <;> with_reducible rfl)
    simp only [Act.put, List.setIfInBounds_toArray, List.set_cons_zero, List.set_cons_succ]
    refine H_on 23 28 ?vs23 rfl rfl (by kernel_rfl) (by kernel_rfl) (by kernel_rfl) (by rfl) ?hs23 hHeld ?rs23
    case hs23 => (intro w hSw; obtain ⟨s0, s1, s2, s3, s4⟩ := hSw; go_simp <;> with_reducible rfl)
    simp only [Act.put, List.setIfInBounds_toArray, List.set_cons_zero, List.set_cons_succ]
    refine H_on 24 4 ?vs24 rfl rfl (by kernel_rfl) (by kernel_rfl) (by kernel_rfl) (by rfl) ?hs24 hHeld ?rs24
    case hs24 => (intro w hSw; obtain ⟨s0, s1, s2, s3, s4⟩ := hSw; go_simp <;> with_reducible rfl)
    simp only [Act.put, List.setIfInBounds_toArray, List.set_cons_zero, List.set_cons_succ]
    refine wpAnyH_done (by kernel_rfl) ?_ _
    refine NoPanic.normal ?_
    clear hHeld
    go_wp2
    go_ret
    exact ⟨rfl, by first | exact below_then HBZ.out HBZ.out.size HBr.out | (rw [← HGB.out]; exact below_then HBZ.out HBZ.out.size HBr.out)⟩
  · have HW1 := HWA
    have HB1 := Aside0.mk (fun w1 A' c' hb hc hC => HBN.out ya HA8.out k1 w1 A' c' hb hc hC)
    have HW2 := HWB
    have HB2 := Aside0.mk (fun w1 A' c' hb hc hC => HBN.out yb HB8.out k2 w1 A' c' hb hc hC)
    clear HBY HBN HWA HWB k1 k2
    go_enter Tryd.func67, Tryd.ntmps67
    go_upto_region 1 with fail
    have HNEW : Aside0 ((W.alloc (.cells #[.int .i64 x0, .int .i64 x1, .int .i64 x2] 44)).heap[W.heap.size]? = some (.cells #[.int .i64 x0, .int .i64 x1, .int .i64 x2] 44 (0, 0))) := ⟨heap_alloc_new W _⟩
    have HBZ : Aside0 (Below W.heap.size W (W.alloc (.cells #[.int .i64 x0, .int .i64 x1, .int .i64 x2] 44))) := ⟨(Below.refl _ _).alloc (Nat.le_refl _) _⟩
    generalize W.alloc (.cells #[.int .i64 x0, .int .i64 x1, .int .i64 x2] 44) = w4 at HNEW HBZ ⊢
    generalize hgb : W.heap.size = gb at HNEW ⊢
    have HGB := Aside0.mk hgb
    clear hgb
    obtain ⟨p2, p3, p4, _⟩ := cells3 HNEW.out
    have p0 := pw_cell_below HBZ.out p0'
    have p1 := pw_cell_below HBZ.out p1'
    clear p0' p1'
    replace HW1 := Aside0.mk (fun w1 (hb : Below w4.heap.size w4 w1) => HW1.out w1 (below_then HBZ.out HBZ.out.size hb))
    replace HB1 := Aside0.mk (fun w1 A' c' (hb : Below w4.heap.size w4 w1) hc hC => HB1.out w1 A' c' (below_then HBZ.out HBZ.out.size hb) hc hC)
    replace HW2 := Aside0.mk (fun w1 (hb : Below w4.heap.size w4 w1) => HW2.out w1 (below_then HBZ.out HBZ.out.size hb))
    replace HB2 := Aside0.mk (fun w1 A' c' (hb : Below w4.heap.size w4 w1) hc hC => HB2.out w1 A' c' (below_then HBZ.out HBZ.out.size hb) hc hC)
    have HBr : Aside0 (Below w4.heap.size w4 w4.drew) := ⟨below_drew (Below.refl _ _)⟩
    refine wp_region_noPanic ?_
    refine wp_region_held_drew (S := fun w' => w'.cell? ⟨b1, 0, none⟩ = some (.slice A len c) ∧ w'.cell? ⟨b2, 0, none⟩ = some (.int .i64 P) ∧ w'.cell? ⟨gb, 0, none⟩ = some (.int .i64 x0) ∧ w'.cell? ⟨gb, 1, none⟩ = some (.int .i64 x1) ∧ w'.cell? ⟨gb, 2, none⟩ = some (.int .i64 x2)) (by kernel_rfl) (⟨p0, p1, p2, p3, p4⟩) (fun hHeld => ?_)
    refine H_on 0 5 ?vn0 rfl rfl (by kernel_rfl) (by kernel_rfl) (by kernel_rfl) (by rfl) ?hn0 hHeld ?rn0
    case hn0 => (intro w hSw; obtain ⟨s0, s1, s2, s3, s4⟩ := hSw; go_simp <;> with_reducible rfl)
    simp only [Act.put, List.setIfInBounds_toArray, List.set_cons_zero, List.set_cons_succ]
    refine H_on 1 6 ?vn1 rfl rfl (by kernel_rfl) (by kernel_rfl) (by kernel_rfl) (by rfl) ?hn1 hHeld ?rn1
    case hn1 => (intro w hSw; obtain ⟨s0, s1, s2, s3, s4⟩ := hSw; go_simp <;> with_reducible rfl)
    simp only [Act.put, List.setIfInBounds_toArray, List.set_cons_zero, List.set_cons_succ]
    refine H_on 2 7 ?vn2 rfl rfl (by kernel_rfl) (by kernel_rfl) (by kernel_rfl) (by rfl) ?hn2 hHeld ?rn2
    case hn2 => (intro w hSw; obtain ⟨s0, s1, s2, s3, s4⟩ := hSw; go_simp <;> with_reducible rfl)
    simp only [Act.put, List.setIfInBounds_toArray, List.set_cons_zero, List.set_cons_succ]
    refine H_on 3 8 ?vn3 rfl rfl (by kernel_rfl) (by kernel_rfl) (by kernel_rfl) (by rfl) ?hn3 hHeld ?rn3
    case hn3 => (intro w hSw; obtain ⟨s0, s1, s2, s3, s4⟩ := hSw; go_simp <;> with_reducible rfl)
    simp only [Act.put, List.setIfInBounds_toArray, List.set_cons_zero, List.set_cons_succ]
    refine H_on 4 9 ?vn4 rfl rfl (by kernel_rfl) (by kernel_rfl) (by kernel_rfl) (by rfl) ?hn4 hHeld ?rn4
    case hn4 => (intro w hSw; obtain ⟨s0, s1, s2, s3, s4⟩ := hSw; go_simp <;> with_reducible rfl)
    simp only [Act.put, List.setIfInBounds_toArray, List.set_cons_zero, List.set_cons_succ]
    refine H_on 5 10 ?vn5 rfl rfl (by kernel_rfl) (by kernel_rfl) (by kernel_rfl) (by rfl) ?hn5 hHeld ?rn5
    case hn5 => (intro w hSw; obtain ⟨s0, s1, s2, s3, s4⟩ := hSw; go_simp <;> with_reducible rfl)
    simp only [Act.put, List.setIfInBounds_toArray, List.set_cons_zero, List.set_cons_succ]
    refine H_on 6 11 ?vn6 rfl rfl (by kernel_rfl) (by kernel_rfl) (by kernel_rfl) (by rfl) ?hn6 hHeld ?rn6
    case hn6 => (intro w hSw; obtain ⟨s0, s1, s2, s3, s4⟩ := hSw; go_simp <;> with_reducible rfl)
    simp only [Act.put, List.setIfInBounds_toArray, List.set_cons_zero, List.set_cons_succ]
    refine H_on 8 13 ?vn8 rfl rfl (by kernel_rfl) (by kernel_rfl) (by kernel_rfl) (by rfl) ?hn8 hHeld ?rn8
    case hn8 => (intro w hSw; obtain ⟨s0, s1, s2, s3, s4⟩ := hSw; go_simp <;> with_reducible rfl)
    simp only [Act.put, List.setIfInBounds_toArray, List.set_cons_zero, List.set_cons_succ]
    refine wpAnyH_ready (rs := [7]) (by kernel_rfl) (by simp) ?_
    refine AllReadyH.cons rfl (fun K hK => ?_) AllReadyH.nil
    go_simp
    refine (HW1.out _ HBr.out).mono ?_
    rintro e wa ⟨A5, c5, hc5, rfl, hC5, hb⟩
    replace HBr : Aside0 (Below w4.heap.size w4 wa) := ⟨below_then HBr.out HBr.out.size hb⟩
    clear hb
    try clear q0 q1 q2 q3 q4
    have q0 : wa.cell? ⟨b1, 0, none⟩ = some (.slice A len c) := pw_cell_below HBr.out p0
    have q1 : wa.cell? ⟨b2, 0, none⟩ = some (.int .i64 P) := pw_cell_below HBr.out p1
    have q2 : wa.cell? ⟨gb, 0, none⟩ = some (.int .i64 x0) := pw_cell_below HBr.out p2
    have q3 : wa.cell? ⟨gb, 1, none⟩ = some (.int .i64 x1) := pw_cell_below HBr.out p3
    have q4 : wa.cell? ⟨gb, 2, none⟩ = some (.int .i64 x2) := pw_cell_below HBr.out p4
    go_wp2_with fail
    refine hK.out _ _ (⟨q0, q1, q2, q3, q4⟩) (fun hHeld => ?_)
    clear hK K
    try simp only [Act.put, List.setIfInBounds_toArray, List.set_cons_zero, List.set_cons_succ]
    refine wpAnyH_ready (rs := [9]) (by kernel_rfl) (by simp) ?_
    refine AllReadyH.cons rfl (fun K hK => ?_) AllReadyH.nil
    go_simp
    refine (HB1.out _ A5 c5 HBr.out hc5 hC5).mono ?_
    rintro e wb ⟨rfl, hb⟩
    replace HBr : Aside0 (Below w4.heap.size w4 wb) := ⟨below_then HBr.out HBr.out.size hb⟩
    clear hb
    try clear q0 q1 q2 q3 q4
    have q0 : wb.cell? ⟨b1, 0, none⟩ = some (.slice A len c) := pw_cell_below HBr.out p0
    have q1 : wb.cell? ⟨b2, 0, none⟩ = some (.int .i64 P) := pw_cell_below HBr.out p1
    have q2 : wb.cell? ⟨gb, 0, none⟩ = some (.int .i64 x0) := pw_cell_below HBr.out p2
    have q3 : wb.cell? ⟨gb, 1, none⟩ = some (.int .i64 x1) := pw_cell_below HBr.out p3
    have q4 : wb.cell? ⟨gb, 2, none⟩ = some (.int .i64 x2) := pw_cell_below HBr.out p4
    go_wp2_with fail
    refine hK.out _ _ (⟨q0, q1, q2, q3, q4⟩) (fun hHeld => ?_)
    clear hK K
    try simp only [Act.put, List.setIfInBounds_toArray, List.set_cons_zero, List.set_cons_succ]
    refine H_on 10 15 ?vn10 rfl rfl (by kernel_rfl) (by kernel_rfl) (by kernel_rfl) (by rfl) ?hn10 hHeld ?rn10
    case hn10 => (intro w hSw; obtain ⟨s0, s1, s2, s3, s4⟩ := hSw; go_simp <;> with_reducible rfl)
    simp only [Act.put, List.setIfInBounds_toArray, List.set_cons_zero, List.set_cons_succ]
    refine H_on 11 16 ?vn11 rfl rfl (by kernel_rfl) (by kernel_rfl) (by kernel_rfl) (by rfl) ?hn11 hHeld ?rn11
    case hn11 => (intro w hSw; obtain ⟨s0, s1, s2, s3, s4⟩ := hSw; go_simp <;> with_reducible rfl)
    simp only [Act.put, List.setIfInBounds_toArray, List.set_cons_zero, List.set_cons_succ]
    refine H_on 12 17 ?vn12 rfl rfl (by kernel_rfl) (by kernel_rfl) (by kernel_rfl) (by rfl) ?hn12 hHeld ?rn12
    case hn12 => (intro w hSw; obtain ⟨s0, s1, s2, s3, s4⟩ := hSw; go_simp <;> with_reducible rfl)
    simp only [Act.put, List.setIfInBounds_toArray, List.set_cons_zero, List.set_cons_succ]
    refine H_on 13 18 ?vn13 rfl rfl (by kernel_rfl) (by kernel_rfl) (by kernel_rfl) (by rfl) ?hn13 hHeld ?rn13
    case hn13 => (intro w hSw; obtain ⟨s0, s1, s2, s3, s4⟩ := hSw; go_simp <;> with_reducible rfl)
    simp only [Act.put, List.setIfInBounds_toArray, List.set_cons_zero, List.set_cons_succ]
    refine H_on 14 19 ?vn14 rfl rfl (by kernel_rfl) (by kernel_rfl) (by kernel_rfl) (by rfl) ?hn14 hHeld ?rn14
    case hn14 => (intro w hSw; obtain ⟨s0, s1, s2, s3, s4⟩ := hSw; go_simp <;> with_reducible rfl)
    simp only [Act.put, List.setIfInBounds_toArray, List.set_cons_zero, List.set_cons_succ]
    refine H_on 15 20 ?vn15 rfl rfl (by kernel_rfl) (by kernel_rfl) (by kernel_rfl) (by rfl) ?hn15 hHeld ?rn15
    case hn15 => (intro w hSw; obtain ⟨s0, s1, s2, s3, s4⟩ := hSw; go_simp <;> with_reducible rfl)
    simp only [Act.put, List.setIfInBounds_toArray, List.set_cons_zero, List.set_cons_succ]
    refine H_on 16 21 ?vn16 rfl rfl (by kernel_rfl) (by kernel_rfl) (by kernel_rfl) (by rfl) ?hn16 hHeld ?rn16
    case hn16 => (intro w hSw; obtain ⟨s0, s1, s2, s3, s4⟩ := hSw; go_simp <;> with_reducible rfl)
    simp only [Act.put, List.setIfInBounds_toArray, List.set_cons_zero, List.set_cons_succ]
    refine H_on 17 22 ?vn17 rfl rfl (by kernel_rfl) (by kernel_rfl) (by kernel_rfl) (by rfl) ?hn17 hHeld ?rn17
    case hn17 => (intro w hSw; obtain ⟨s0, s1, s2, s3, s4⟩ := hSw; go_simp <;> with_reducible rfl)
    simp only [Act.put, List.setIfInBounds_toArray, List.set_cons_zero, List.set_cons_succ]
    refine H_on 18 23 ?vn18 rfl rfl (by kernel_rfl) (by kernel_rfl) (by kernel_rfl) (by rfl) ?hn18 hHeld ?rn18
    case hn18 => (intro w hSw; obtain ⟨s0, s1, s2, s3, s4⟩ := hSw; go_simp <;> with_reducible rfl)
    simp only [Act.put, List.setIfInBounds_toArray, List.set_cons_zero, List.set_cons_succ]
    refine H_on 20 25 ?vn20 rfl rfl (by kernel_rfl) (by kernel_rfl) (by kernel_rfl) (by rfl) ?hn20 hHeld ?rn20
    case hn20 => (intro w hSw; obtain ⟨s0, s1, s2, s3, s4⟩ := hSw; go_simp <;> with_reducible rfl)
    simp only [Act.put, List.setIfInBounds_toArray, List.set_cons_zero, List.set_cons_succ]
    refine wpAnyH_ready (rs := [19]) (by kernel_rfl) (by simp) ?_
    refine AllReadyH.cons rfl (fun K hK => ?_) AllReadyH.nil
    go_simp
    refine (HW2.out _ HBr.out).mono ?_
    rintro e wc ⟨A6, c6, hc6, rfl, hC6, hb⟩
    replace HBr : Aside0 (Below w4.heap.size w4 wc) := ⟨below_then HBr.out HBr.out.size hb⟩
    clear hb
    try clear q0 q1 q2 q3 q4
    have q0 : wc.cell? ⟨b1, 0, none⟩ = some (.slice A len c) := pw_cell_below HBr.out p0
    have q1 : wc.cell? ⟨b2, 0, none⟩ = some (.int .i64 P) := pw_cell_below HBr.out p1
    have q2 : wc.cell? ⟨gb, 0, none⟩ = some (.int .i64 x0) := pw_cell_below HBr.out p2
    have q3 : wc.cell? ⟨gb, 1, none⟩ = some (.int .i64 x1) := pw_cell_below HBr.out p3
    have q4 : wc.cell? ⟨gb, 2, none⟩ = some (.int .i64 x2) := pw_cell_below HBr.out p4
    go_wp2_with fail
    refine hK.out _ _ (⟨q0, q1, q2, q3, q4⟩) (fun hHeld => ?_)
    clear hK K
    try simp only [Act.put, List.setIfInBounds_toArray, List.set_cons_zero, List.set_cons_succ]
    refine wpAnyH_ready (rs := [21]) (by kernel_rfl) (by simp) ?_
    refine AllReadyH.cons rfl (fun K hK => ?_) AllReadyH.nil
    go_simp
    refine (HB2.out _ A6 c6 HBr.out hc6 hC6).mono ?_
    rintro e wd ⟨rfl, hb⟩
    replace HBr : Aside0 (Below w4.heap.size w4 wd) := ⟨below_then HBr.out HBr.out.size hb⟩
    clear hb
    try clear q0 q1 q2 q3 q4
    have q0 : wd.cell? ⟨b1, 0, none⟩ = some (.slice A len c) := pw_cell_below HBr.out p0
    have q1 : wd.cell? ⟨b2, 0, none⟩ = some (.int .i64 P) := pw_cell_below HBr.out p1
    have q2 : wd.cell? ⟨gb, 0, none⟩ = some (.int .i64 x0) := pw_cell_below HBr.out p2
    have q3 : wd.cell? ⟨gb, 1, none⟩ = some (.int .i64 x1) := pw_cell_below HBr.out p3
    have q4 : wd.cell? ⟨gb, 2, none⟩ = some (.int .i64 x2) := pw_cell_below HBr.out p4
    go_wp2_with fail
    refine hK.out _ _ (⟨q0, q1, q2, q3, q4⟩) (fun hHeld => ?_)
    clear hK K
    try simp only [Act.put, List.setIfInBounds_toArray, List.set_cons_zero, List.set_cons_succ]
    refine H_on 22 27 ?vn22 rfl rfl (by kernel_rfl) (by kernel_rfl) (by kernel_rfl) (by rfl) ?hn22 hHeld ?rn22
    case hn22 => (intro w hSw; obtain ⟨s0, s1, s2, s3, s4⟩ := hSw; go_simp <;> with_reducible rfl)
    simp only [Act.put, List.setIfInBounds_toArray, List.set_cons_zero, List.set_cons_succ]
    refine H_on 23 28 ?vn23 rfl rfl (by kernel_rfl) (by kernel_rfl) (by kernel_rfl) (by rfl) ?hn23 hHeld ?rn23
    case hn23 => (intro w hSw; obtain ⟨s0, s1, s2, s3, s4⟩ := hSw; go_simp <;> with_reducible rfl)
    simp only [Act.put, List.setIfInBounds_toArray, List.set_cons_zero, List.set_cons_succ]
    refine H_on 24 4 ?vn24 rfl rfl (by kernel_rfl) (by kernel_rfl) (by kernel_rfl) (by rfl) ?hn24 hHeld ?rn24
    case hn24 => (intro w hSw; obtain ⟨s0, s1, s2, s3, s4⟩ := hSw; go_simp <;> with_reducible rfl)
    simp only [Act.put, List.setIfInBounds_toArray, List.set_cons_zero, List.set_cons_succ]
    refine wpAnyH_done (by kernel_rfl) ?_ _
    refine NoPanic.normal ?_
    clear hHeld
    go_wp2
    go_ret
    exact ⟨rfl, by first | exact below_then HBZ.out HBZ.out.size HBr.out | (rw [← HGB.out]; exact below_then HBZ.out HBZ.out.size HBr.out)⟩
/-! ### Closure -/
/-- All triples that follow, and the error. -/
def closureE (n : Int) (l : List S44) : List S44 × Int := if askE n l = 0 then (match buildF l 9 (2 ^ n.toNat - 1) with | some _ => ((allF n.toNat).filter (fun x => !openB l (2 ^ n.toNat - 1) x), 0) | none => ([], 10)) else ([], askE n l)
set_option maxRecDepth 100000 in
set_option maxHeartbeats 3200000 in
theorem Closure_calls (n : Int) (A : Option Addr) (c : Nat) (l : List S44) (W : World) (hr : Kd.C k44 W A l.length l) (hc : l.length ≤ c) (hT : TabAt W) :
    Calls Tryd.prog 38 #[.int .i64 n, .slice A l.length c] W (RowT (closureE n l) W) := by
  have HR := Aside0.mk hr
  have HT := Aside0.mk hT
  have HA : Aside0 (∀ w, Below W.heap.size W w → Calls Tryd.prog 43 #[.int .i64 n, .slice A l.length c] w fun e w' => e = .returned (.int .i64 (askE n l)) ∧ Below w.heap.size w w') := ⟨fun w hb => asked_calls n A c l w (Kd.C_below HR.out hb) hc⟩
  obtain ⟨Z, hZ⟩ : ∃ Z, closureE n l = Z := ⟨_, rfl⟩
  rw [hZ]
  unfold closureE at hZ
  have HBOX : Aside0 (Below W.heap.size W (W.alloc (.cells #[.slice A l.length c] 27)) ∧ (W.alloc (.cells #[.slice A l.length c] 27)).heap[W.heap.size]? = some (.cells #[.slice A l.length c] 27 (0, 0))) := ⟨(Below.refl _ _).alloc (Nat.le_refl _) _, heap_alloc_new W _⟩
  by_cases h0 : askE n l = 0
  · rw [if_pos h0] at hZ
    rw [h0] at HA
    obtain ⟨hn, hl60, hok⟩ := askE_zero h0
    obtain ⟨m, rfl⟩ : ∃ m : Nat, n = m := ⟨n.toNat, by omega⟩
    rw [Int.toNat_natCast] at hZ
    have hm8 : m ≤ 8 := by omega
    have h8 : ∀ t ∈ l, Tri8 t := fun t ht => okTri_8 (by omega) (hok t ht)
    have hp := pow_256 hm8
    have hp2 : 2 ≤ 2 ^ m := by
      obtain ⟨m', rfl⟩ : ∃ m', m = m' + 1 := ⟨m - 1, by omega⟩
      have := Nat.two_pow_pos m'
      rw [Nat.pow_succ]; omega
    have hw1 := wrap_pow hm8
    have hw2 := wrap64_pow hm8
    have hsP : ((2 ^ m - 1 : Nat) : Int) = ((2 ^ m : Nat) : Int) - 1 := by omega
    have HB : Aside0 (∀ w1, Below W.heap.size W w1 → Calls Tryd.prog 44 #[.slice A l.length c, .int .i64 ((2 ^ m - 1 : Nat) : Int)] w1 (TreePost (buildF l 9 (2 ^ m - 1)) w1)) := ⟨fun w1 hb => build_calls A c l h8 (by omega) 9 (2 ^ m - 1) w1 (by omega) (by omega) (by have := pcN_le (2 ^ m - 1) 8; omega) (Kd.C_below HR.out hb) (HT.out.next hb)⟩
    have HPW : Aside0 (∀ w b1 b2, Below W.heap.size W w → w.cell? ⟨b1, 0, none⟩ = some (.slice A l.length c) → w.cell? ⟨b2, 0, none⟩ = some (.int .i64 ((2 ^ m - 1 : Nat) : Int)) → PredW 67 #[.pointer (some ⟨b1, 0, none⟩), .pointer (some ⟨b2, 0, none⟩)] (openB l (2 ^ m - 1)) (allF m) w) := ⟨fun w b1 b2 hb h1 h2 => clo67W A c l h8 (by omega) hc (2 ^ m - 1) (by omega) (by omega) (allF m) (fun x hx => okTri_8 (n := (m : Int)) (by omega) (all_mem.mp hx)) b1 b2 w h1 h2 (Kd.C_below HR.out hb) (HT.out.next hb)⟩
    have HAL := Aside0.mk (fun w => all_calls m hm8 w)
    have HLN := Aside0.mk (all_len m hm8)
    rw [hsP] at HB HPW
    have hpb : 2 ≤ ((2 ^ m : Nat) : Int) ∧ ((2 ^ m : Nat) : Int) ≤ 256 := by omega
    generalize ((2 ^ m : Nat) : Int) = P at HB HPW hw1 hw2 hpb
    generalize 2 ^ m - 1 = q at HB HPW hZ
    obtain ⟨len, hlen⟩ : ∃ len, l.length = len := ⟨_, rfl⟩
    rw [hlen] at HA HB HPW HBOX ⊢
    clear hr hc hT hn hl60 hok h8 hlen hsP hp hp2
    cases hb : buildF l 9 q with
    | none =>
      rw [hb] at hZ HB
      subst hZ
      have HB2 : Aside0 (∀ w1, Below W.heap.size W w1 → Calls Tryd.prog 44 #[.slice A len c, .int .i64 (P - 1)] w1 fun e w' => e = .returned .nilIface ∧ Below w1.heap.size w1 w') := ⟨fun w1 h => (HB.out w1 h).mono (by
        rintro e w' ⟨⟨_, rfl⟩ | ⟨t, v, h, _⟩, hb⟩
        · exact ⟨rfl, hb⟩
        · cases h)⟩
      clear HB hb HPW
      go_enter Tryd.func38, Tryd.ntmps38
      go_upto_region 1 with fail
      obtain ⟨HBK, HNEW⟩ := HBOX.out
      clear HBOX
      generalize W.alloc (.cells #[.slice A len c] 27) = w4 at HBK HNEW ⊢
      generalize hgb : W.heap.size = gb at HNEW ⊢
      have HGB := Aside0.mk hgb
      clear hgb
      have p0 : w4.cell? ⟨gb, 0, none⟩ = some (.slice A len c) := blk_cell HNEW 0
      replace HBK := Aside0.mk HBK
      go_upto_region 2 with (go_at_call 43; go_must (refine (HA.out _ HBK.out).mono ?_; rintro e w5 ⟨rfl, hb⟩; replace p0 := pw_cell_below hb p0; replace HBK := Aside0.mk (below_then HBK.out HBK.out.size hb); clear hb HNEW))
      go_upto_region 5 with fail
      have HN2 : (w5.alloc (.cells #[.int .i64 (P - 1)] 3)).heap[w5.heap.size]? = some (.cells #[.int .i64 (P - 1)] 3 (0, 0)) := heap_alloc_new w5 _
      replace p0 : (w5.alloc (.cells #[.int .i64 (P - 1)] 3)).cell? ⟨gb, 0, none⟩ = some (.slice A len c) := pw_cell_below ((Below.refl _ _).alloc (Nat.le_refl _) _) p0
      replace HBK : Aside0 (Below W.heap.size W (w5.alloc (.cells #[.int .i64 (P - 1)] 3))) := ⟨below_alloc HBK.out _⟩
      generalize w5.alloc (.cells #[.int .i64 (P - 1)] 3) = w6 at HN2 p0 HBK ⊢
      generalize w5.heap.size = nb at HN2 ⊢
      have p1 : w6.cell? ⟨nb, 0, none⟩ = some (.int .i64 (P - 1)) := blk_cell HN2 0
      clear HN2
      go_wp2_with (go_at_call 44; go_must (refine (HB2.out _ HBK.out).mono ?_; rintro e w2 ⟨rfl, hb2⟩; have HB3 := Aside0.mk (below_then HBK.out HBK.out.size hb2); clear hb2))
      go_ret2
      exact ⟨_, rfl, Kd.R_nil _ _ _ _ _, by first | exact HB3.out | (rw [← HGB.out]; exact HB3.out)⟩
    | some t =>
      rw [hb] at hZ HB
      have HB2 : Aside0 (∀ w1, Below W.heap.size W w1 → Calls Tryd.prog 44 #[.slice A len c, .int .i64 (P - 1)] w1 fun e w' => ∃ T u, e = .returned (.iface T u) ∧ Below w1.heap.size w1 w') := ⟨fun w1 h => (HB.out w1 h).mono (by
        rintro e w' ⟨⟨h, _⟩ | ⟨t', v, h, rfl, ht⟩, hb⟩
        · cases h
        · obtain ⟨T, u, rfl, _⟩ := ht.ask
          exact ⟨T, u, rfl, hb⟩)⟩
      have HZ := Aside0.mk hZ
      clear HB hb hZ
      go_enter Tryd.func38, Tryd.ntmps38
      go_upto_region 1 with fail
      obtain ⟨HBK, HNEW⟩ := HBOX.out
      clear HBOX
      generalize W.alloc (.cells #[.slice A len c] 27) = w4 at HBK HNEW ⊢
      generalize hgb : W.heap.size = gb at HNEW ⊢
      have HGB := Aside0.mk hgb
      clear hgb
      have p0 : w4.cell? ⟨gb, 0, none⟩ = some (.slice A len c) := blk_cell HNEW 0
      replace HBK := Aside0.mk HBK
      go_upto_region 2 with (go_at_call 43; go_must (refine (HA.out _ HBK.out).mono ?_; rintro e w5 ⟨rfl, hb⟩; replace p0 := pw_cell_below hb p0; replace HBK := Aside0.mk (below_then HBK.out HBK.out.size hb); clear hb HNEW))
      go_upto_region 5 with fail
      have HN2 : (w5.alloc (.cells #[.int .i64 (P - 1)] 3)).heap[w5.heap.size]? = some (.cells #[.int .i64 (P - 1)] 3 (0, 0)) := heap_alloc_new w5 _
      replace p0 : (w5.alloc (.cells #[.int .i64 (P - 1)] 3)).cell? ⟨gb, 0, none⟩ = some (.slice A len c) := pw_cell_below ((Below.refl _ _).alloc (Nat.le_refl _) _) p0
      replace HBK : Aside0 (Below W.heap.size W (w5.alloc (.cells #[.int .i64 (P - 1)] 3))) := ⟨below_alloc HBK.out _⟩
      generalize w5.alloc (.cells #[.int .i64 (P - 1)] 3) = w6 at HN2 p0 HBK ⊢
      generalize w5.heap.size = nb at HN2 ⊢
      have p1 : w6.cell? ⟨nb, 0, none⟩ = some (.int .i64 (P - 1)) := blk_cell HN2 0
      clear HN2
      go_wp2_with (first
        | (go_at_call 44; go_must (refine (HB2.out _ HBK.out).mono ?_; rintro e w2 ⟨T, u, rfl, hb2⟩; replace p0 := pw_cell_below hb2 p0; replace p1 := pw_cell_below hb2 p1; have HB3 := Aside0.mk (below_then HBK.out HBK.out.size hb2); have HP3 := Aside0.mk (HPW.out w2 _ _ HB3.out p0 p1); clear hb2))
        | (go_at_call 64; go_must (refine (HAL.out _).mono ?_; rintro e w3 ⟨v3, rfl, hR3, hb3⟩; have HR3 := Aside0.mk hR3; have HB4 := Aside0.mk hb3; clear hR3 hb3))
        | (go_at_call 63; go_must (refine (delete_any 67 _ (openB l q) enters67 HR3.out (by have := HLN.out; omega) HB4.out HP3.out).mono ?_; rintro e w4 ⟨v4, rfl, hR4, hb4⟩; have HR5 := Aside0.mk (Kd.R_lower hR4 HB3.out.size); have HB5 := Aside0.mk (below_then HB3.out HB3.out.size hb4); clear hR4 hb4)))
      go_ret2
      exact ⟨v4, by rw [← HZ.out]; rfl, by rw [← HZ.out]; first | exact HR5.out | (rw [← HGB.out]; exact HR5.out), by first | exact HB5.out | (rw [← HGB.out]; exact HB5.out)⟩
  · rw [if_neg h0] at hZ
    subst hZ
    obtain ⟨e1, e2⟩ := errne h0
    obtain ⟨len, hlen⟩ : ∃ len, l.length = len := ⟨_, rfl⟩
    rw [hlen] at HA HBOX ⊢
    generalize askE n l = E at *
    clear hr hc hT h0 hlen
    go_enter Tryd.func38, Tryd.ntmps38
    go_upto_region 1 with fail
    obtain ⟨HBK, HNEW⟩ := HBOX.out
    clear HBOX
    generalize W.alloc (.cells #[.slice A len c] 27) = w4 at HBK HNEW ⊢
    generalize hgb : W.heap.size = gb at HNEW ⊢
    have HGB := Aside0.mk hgb
    clear hgb
    have p0 : w4.cell? ⟨gb, 0, none⟩ = some (.slice A len c) := blk_cell HNEW 0
    replace HBK := Aside0.mk HBK
    go_upto_region 2 with (go_at_call 43; go_must (refine (HA.out _ HBK.out).mono ?_; rintro e w5 ⟨rfl, hb⟩; replace p0 := pw_cell_below hb p0; replace HBK := Aside0.mk (below_then HBK.out HBK.out.size hb); clear hb HNEW))
    go_wp2
    go_ret2
    exact ⟨_, rfl, Kd.R_nil _ _ _ _ _, by first | exact HBK.out | (rw [← HGB.out]; exact HBK.out)⟩
end Go.Proofs.YtdbbcngmnpejnaaDoor.B

/- A knot where nothing can be built; a tree is built of its own triples; of three beasts a tree shows at most one triple. -/
namespace Go.Proofs.YtdbbcngmnpejnaaDoor.A
variable {l : List S44} {s : Nat}
/-! ### a tree of its own triples -/
theorem pairN_mm {x : S44} {a b : Nat} (h1 : x.a = min a b) (h2 : x.b = max a b) : pairN x = 2 ^ a ||| 2 ^ b := by
  unfold pairN
  rw [h1, h2]
  rcases Nat.le_total a b with h | h
  · rw [Nat.min_eq_left h, Nat.max_eq_right h]
  · rw [Nat.min_eq_right h, Nat.max_eq_left h, Nat.or_comm]
theorem shows3_mm {x : S44} {a b c : Nat} (h1 : x.a = min a b) (h2 : x.b = max a b) (h3 : x.c = c) (t : BT) : shows3 t x = showsB t a b c := by
  unfold shows3 showsB
  have h := pairN_mm h1 h2
  unfold pairN at h
  rw [h, h3]
/-- Of three beasts a tree shows at most one triple. -/
theorem shows_once (T : BT) : T.Good → ∀ a b c, T.set.testBit a = true → T.set.testBit b = true → T.set.testBit c = true → a ≠ b → c ≠ a → c ≠ b → showsB T a b c = true → showsB T a c b = false := by
  refine BT.ind (P := fun T => T.Good → ∀ a b c, T.set.testBit a = true → T.set.testBit b = true → T.set.testBit c = true → a ≠ b → c ≠ a → c ≠ b → showsB T a b c = true → showsB T a c b = false) (fun i hi a b c ha hb _ hab _ _ _ => ?_) (fun ks ih hg a b c ha hb hc hab hca hcb h => ?_) T
  · rw [set_leaf, two_bit, decide_eq_true_iff] at ha hb
    exact absurd (ha.symm.trans hb) hab
  · obtain ⟨_, hks, hpw⟩ := good_node.mp hg
    by_cases hsame : ∃ k ∈ ks, k.set.testBit a = true ∧ k.set.testBit b = true
    · obtain ⟨k, hk, hka, hkb⟩ := hsame
      cases hkc : k.set.testBit c with
      | true =>
        rw [shows_in hg hk hka hkb] at h
        rw [shows_in hg hk hka hkc]
        exact ih k hk (hks k hk) a b c hka hkb hkc hab hca hcb h
      | false =>
        refine shows_out (fun k' hk' ha' => ?_) hb
        have e : k' = k := part_one hpw hk' hk ha' hka
        rw [e]; exact hkc
    · have := shows_out (ks := ks) (a := a) (b := b) (c := c) (fun k hk hka => by
        cases hkb : k.set.testBit b with
        | false => rfl
        | true => exact absurd ⟨k, hk, hka, hkb⟩ hsame) hc
      rw [this] at h; cases h
end Go.Proofs.YtdbbcngmnpejnaaDoor.A

/- What Build, Knot, Shows and Joined answer of one list of triples, plain: Aho's theorem, as the laws ask it. -/
namespace Go.Proofs.YtdbbcngmnpejnaaDoor.B
open Go.Proofs.YtdbbcngmnpejnaaDoor.A
open Go.RowKit Go.Proofs.YtdbbcngmnpejnaaDoorW.PrintWords Go.Proofs.YtdbbcngmnpejnaaDoorW.PrintMore
theorem full_ne {m : Nat} (h : 1 ≤ m) : 2 ^ m - 1 ≠ 0 := by
  obtain ⟨k, rfl⟩ : ∃ k, m = k + 1 := ⟨m - 1, by omega⟩
  have := Nat.two_pow_pos k
  rw [Nat.pow_succ]; omega
theorem full_256 {m : Nat} (h : m ≤ 8) : 2 ^ m - 1 < 256 := by
  have := pow_256 h
  have := Nat.two_pow_pos m
  omega
theorem full_bit (m i : Nat) : (2 ^ m - 1).testBit i = decide (i < m) := Nat.testBit_two_pow_sub_one m i
theorem okTri_3 {n : Int} {t : S44} (hn : n ≤ 8) (h : okTri n t = true) : Tri3 t := by
  have h1 := okTri_8 hn h
  have := okTri_parts h
  refine ⟨h1, ?_⟩
  unfold S44.a S44.b S44.c
  omega
theorem okTri_sub {m : Nat} {t : S44} (h : okTri m t = true) : SubN (allN t) (2 ^ m - 1) := fun i hi => by
  have h1 := okTri_parts h
  rw [full_bit, decide_eq_true_iff]
  unfold allN pairN at hi
  rw [Nat.testBit_or, pair_bit, two_bit, Bool.or_eq_true, Bool.or_eq_true, decide_eq_true_iff, decide_eq_true_iff, decide_eq_true_iff] at hi
  unfold S44.a S44.b S44.c at hi
  omega
end Go.Proofs.YtdbbcngmnpejnaaDoor.B

/- What follows from triples, plain: a triple that every tree shows; where a tree leaves three beasts open, each of their triples can be added. -/
namespace Go.Proofs.YtdbbcngmnpejnaaDoor.A
variable {l : List S44} {s : Nat}
/-- As part_in, asked less: each pair that counts lies in one part of the tree. -/
theorem part_in2 (hl : ∀ t ∈ l, Tri8 t) {ks : List BT} (hg : (BT.node ks).Good) (h8 : s < 256) (hs : SubN s (BT.node ks).set) (hsh : ∀ x ∈ l, SubN (allN x) s → ∃ k ∈ ks, k.set.testBit x.a = true ∧ k.set.testBit x.b = true) {p : Nat} (hp : p ∈ partsF l s) : ∃ k ∈ ks, SubN p k.set := by
  have hP := parts_spec (s := s) hl h8
  have hp8 : p < 256 := lt_of_bits (k := 8) fun i hi => bit_lt (k := 8) h8 (hP.sub p hp i hi)
  have hlow := low_bit (hP.ne p hp) hp8
  have hls := hP.sub p hp _ hlow
  have hlt := hs _ hls
  rw [set_node, sets_bit] at hlt
  obtain ⟨k, hk, hkl⟩ := hlt
  refine ⟨k, hk, ?_⟩
  have hpw := (good_node.mp hg).2.2
  have hQ : ClosedJ l s (s &&& k.set) := fun x hx hxs hm => by
    obtain ⟨j, hj1, hj2⟩ := meet_iff.mp hm
    rw [Nat.testBit_and, Bool.and_eq_true] at hj2
    obtain ⟨k', hk', ha, hb⟩ := hsh x hx hxs
    have e : k' = k := part_one hpw hk' hk (sub_pair (x := x) ha hb j hj1) hj2.2
    subst e
    intro i hi
    rw [Nat.testBit_and, hxs i (pair_sub x i hi), sub_pair ha hb i hi]; rfl
  have h := hP.least p hp _ hQ (by rw [Nat.testBit_and, hls, hkl]; rfl)
  intro i hi
  have := h i hi
  rw [Nat.testBit_and, Bool.and_eq_true] at this
  exact this.2
/-- A shown triple's pair lies in one part. -/
theorem shown_pair {ks : List BT} {x : S44} (h : shows3 (.node ks) x = true) (hc : (BT.node ks).set.testBit x.c = true) : ∃ k ∈ ks, k.set.testBit x.a = true ∧ k.set.testBit x.b = true := by
  refine Classical.byContradiction fun hno => ?_
  have := shows_out (ks := ks) (a := x.a) (b := x.b) (c := x.c) (fun k' hk' ha => by
    cases hb : k'.set.testBit x.b with
    | false => rfl
    | true => exact absurd ⟨k', hk', ha, hb⟩ hno) hc
  unfold shows3 at h
  rw [this] at h; cases h
/-- The step of a building: not one beast, several parts, each of which can be built. -/
theorem build_from (hl : ∀ t ∈ l, Tri8 t) {f : Nat} (h8 : s < 256) (h1 : s &&& (s - 1) ≠ 0) (h2 : (partsF l s).length ≠ 1) (hp : ∀ p ∈ partsF l s, p ≠ 0 → p < 256 → pcN p 8 < pcN s 8 → SubN p s → buildF l f p ≠ none) : buildF l (f + 1) s ≠ none := by
  rw [buildF, if_neg h1, if_neg h2]
  intro hno
  have hno2 : mapO (buildF l f) (partsF l s) = none := by
    cases h : mapO (buildF l f) (partsF l s) with
    | none => rfl
    | some ts => rw [h] at hno; cases hno
  obtain ⟨p, hpm, hpn⟩ := mapO_none.mp hno2
  have hP := parts_spec (s := s) hl h8
  exact hp p hpm (hP.ne p hpm) (lt_of_bits (k := 8) fun i hi => bit_lt (k := 8) h8 (hP.sub p hpm i hi)) (part_less hl h8 hpm h2) (hP.sub p hpm) hpn
theorem single_bits (h0 : s ≠ 0) (h8 : s < 256) (h1 : s &&& (s - 1) = 0) {i j : Nat} (hi : s.testBit i = true) (hj : s.testBit j = true) : i = j := by
  have e := (one_iff s h8 h0).mp h1
  rw [e, two_bit, decide_eq_true_iff] at hi hj
  omega
/-- Where a tree leaves three beasts open, one of their triples can be added to what it shows. -/
theorem open_build (hl : ∀ t ∈ l, Tri8 t) (a b c : Nat) (hab : a ≠ b) (_ : c ≠ a) (_ : c ≠ b) (T : BT) : T.Good → showsB T a b c = false → showsB T a c b = false → showsB T b c a = false → ∀ f s, s < 256 → pcN s 8 < f → SubN s T.set → s.testBit a = true → s.testBit b = true → s.testBit c = true → (∀ x ∈ l, SubN (allN x) s → shows3 T x = true ∨ (pairN x = 2 ^ a ||| 2 ^ c ∧ x.c = b)) → buildF l f s ≠ none := by
  refine BT.ind (P := fun T => T.Good → showsB T a b c = false → showsB T a c b = false → showsB T b c a = false → ∀ f s, s < 256 → pcN s 8 < f → SubN s T.set → s.testBit a = true → s.testBit b = true → s.testBit c = true → (∀ x ∈ l, SubN (allN x) s → shows3 T x = true ∨ (pairN x = 2 ^ a ||| 2 ^ c ∧ x.c = b)) → buildF l f s ≠ none) (fun i _ _ _ _ f s _ _ hs ha hb _ _ => ?_) (fun ks ih hg n1 n2 n3 f s h8 hf hs ha hb hc hsh => ?_) T
  · have h1 := hs a ha
    have h2 := hs b hb
    rw [set_leaf, two_bit, decide_eq_true_iff] at h1 h2
    exact absurd (h1.symm.trans h2) hab
  · obtain ⟨f, rfl⟩ : ∃ f', f = f' + 1 := ⟨f - 1, by omega⟩
    obtain ⟨_, hks, hpw⟩ := good_node.mp hg
    have h0 : s ≠ 0 := bit_ne ha
    have hn1 : s &&& (s - 1) ≠ 0 := fun e => hab (single_bits h0 h8 e ha hb)
    have hP := parts_spec (s := s) hl h8
    -- what holds of a part that lacks one of the three
    have hlack : ∀ p, p ≠ 0 → p < 256 → pcN p 8 < pcN s 8 → SubN p s → ¬ (p.testBit a = true ∧ p.testBit b = true ∧ p.testBit c = true) → buildF l f p ≠ none := fun p hp0 hp8 hpc hps hno =>
      shows_build hl (.node ks) hg f p hp0 hp8 (by omega) (hps.trans hs) fun x hx hxp => by
        rcases hsh x hx (hxp.trans hps) with h | ⟨h1, h2⟩
        · exact h
        · refine absurd ⟨?_, ?_, ?_⟩ hno
          · exact hxp _ (pair_sub x _ (by rw [h1, pair_bit]; simp))
          · rw [← h2]; exact hxp _ (all_c x)
          · exact hxp _ (pair_sub x _ (by rw [h1, pair_bit]; simp))
    have hin : ∀ i, s.testBit i = true → ∃ k ∈ ks, k.set.testBit i = true := fun i hi => by
      have := hs i hi
      rwa [set_node, sets_bit] at this
    obtain ⟨ka, hka, hkaa⟩ := hin a ha
    obtain ⟨kb, hkb, hkbb⟩ := hin b hb
    obtain ⟨kc, hkc, hkcc⟩ := hin c hc
    by_cases eab : ka = kb
    · subst eab
      -- then c lies there too
      have hcc : ka.set.testBit c = true := by
        cases h : ka.set.testBit c with
        | true => rfl
        | false => have := shows_apart hg hka hkaa hkbb h; rw [this] at n1; cases n1
      rw [shows_in hg hka hkaa hkbb] at n1
      rw [shows_in hg hka hkaa hcc] at n2
      rw [shows_in hg hka hkbb hcc] at n3
      have hpair : ∀ x ∈ l, SubN (allN x) s → ∃ k ∈ ks, k.set.testBit x.a = true ∧ k.set.testBit x.b = true := fun x hx hxs => by
        rcases hsh x hx hxs with h | ⟨h1, _⟩
        · exact shown_pair h (hs _ (hxs _ (all_c x)))
        · have hsub : SubN (pairN x) ka.set := by rw [h1]; exact has_iff.mp (has_pair.mpr ⟨hkaa, hcc⟩)
          exact ⟨ka, hka, hsub _ (pair_a x), hsub _ (pair_b x)⟩
      have hkid : ∀ q, SubN q ka.set → ∀ x ∈ l, SubN (allN x) q → (shows3 (.node ks) x = true ∨ (pairN x = 2 ^ a ||| 2 ^ c ∧ x.c = b)) → shows3 ka x = true ∨ (pairN x = 2 ^ a ||| 2 ^ c ∧ x.c = b) := fun q hq x hx hxq h => by
        rcases h with h | h
        · left
          unfold shows3 at h ⊢
          rwa [shows_in hg hka (hq _ (hxq _ (pair_sub x _ (pair_a x)))) (hq _ (hxq _ (pair_sub x _ (pair_b x))))] at h
        · exact .inr h
      by_cases hsk : SubN s ka.set
      · exact ih ka hka (hks ka hka) n1 n2 n3 (f + 1) s h8 hf hsk ha hb hc fun x hx hxs => hkid s hsk x hx hxs (hsh x hx hxs)
      · refine build_from hl h8 hn1 (fun e => ?_) fun p hp hp0 hp8 hpc hps => ?_
        · obtain ⟨p, hp⟩ := List.length_eq_one_iff.mp e
          obtain ⟨k, hk, hpk⟩ := part_in2 hl hg h8 hs hpair (p := p) (by rw [hp]; exact List.mem_cons_self)
          have hsp : SubN s p := fun i hi => by
            obtain ⟨q, hq, hqi⟩ := hP.all i hi
            rw [hp, List.mem_singleton] at hq
            rwa [hq] at hqi
          have e2 : k = ka := part_one hpw hk hka (hpk _ (hsp _ ha)) hkaa
          rw [e2] at hpk
          exact hsk (hsp.trans hpk)
        · by_cases h3 : p.testBit a = true ∧ p.testBit b = true ∧ p.testBit c = true
          · obtain ⟨k, hk, hpk⟩ := part_in2 hl hg h8 hs hpair hp
            have e2 : k = ka := part_one hpw hk hka (hpk _ h3.1) hkaa
            rw [e2] at hpk
            exact ih ka hka (hks ka hka) n1 n2 n3 f p hp8 (by omega) hpk h3.1 h3.2.1 h3.2.2 fun x hx hxp => hkid p hpk x hx hxp (hsh x hx (hxp.trans hps))
          · exact hlack p hp0 hp8 hpc hps h3
    · -- all three lie apart
      have hac : ka ≠ kc := fun e => by
        subst e
        have h : ka.set.testBit b = false := by
          cases h : ka.set.testBit b with
          | false => rfl
          | true => exact absurd (part_one hpw hka hkb h hkbb) eab
        have := shows_apart hg hka hkaa hkcc h
        rw [this] at n2; cases n2
      have hbc : kb ≠ kc := fun e => by
        subst e
        have h : kb.set.testBit a = false := by
          cases h : kb.set.testBit a with
          | false => rfl
          | true => exact absurd (part_one hpw hka hkb hkaa h) eab
        have := shows_apart hg hkb hkbb hkcc h
        rw [this] at n3; cases n3
      -- each part lacks one of the three
      have hlk : ∀ p ∈ partsF l s, ¬ (p.testBit a = true ∧ p.testBit b = true ∧ p.testBit c = true) := fun p hp ⟨pa, pb, pc⟩ => by
        have hp8 : p < 256 := lt_of_bits (k := 8) fun i hi => bit_lt (k := 8) h8 (hP.sub p hp i hi)
        have hlow := low_bit (hP.ne p hp) hp8
        have hls := hP.sub p hp _ hlow
        obtain ⟨k, hk, hkl⟩ := hin _ hls
        by_cases e : k = kb
        · -- the part lies in kb
          have hQ : ClosedJ l s (s &&& kb.set) := fun x hx hxs hm => by
            obtain ⟨j, hj1, hj2⟩ := meet_iff.mp hm
            rw [Nat.testBit_and, Bool.and_eq_true] at hj2
            rcases hsh x hx hxs with h | ⟨h1, _⟩
            · obtain ⟨k', hk', xa, xb⟩ := shown_pair h (hs _ (hxs _ (all_c x)))
              have e : k' = kb := part_one hpw hk' hkb (sub_pair (x := x) xa xb j hj1) hj2.2
              subst e
              intro i hi
              rw [Nat.testBit_and, hxs i (pair_sub x i hi), sub_pair xa xb i hi]; rfl
            · rw [h1, pair_bit, Bool.or_eq_true, decide_eq_true_iff, decide_eq_true_iff] at hj1
              rcases hj1 with e | e
              · rw [← e] at hj2; exact absurd (part_one hpw hka hkb hkaa hj2.2) eab
              · rw [← e] at hj2; exact absurd (part_one hpw hkb hkc hj2.2 hkcc) hbc
          have h := hP.least p hp _ hQ (by rw [Nat.testBit_and, hls, ← e, hkl]; rfl) a pa
          rw [Nat.testBit_and, Bool.and_eq_true] at h
          exact eab (part_one hpw hka hkb hkaa h.2)
        · -- the part lies outside kb
          have hQ : ClosedJ l s (diffN s kb.set) := fun x hx hxs hm => by
            obtain ⟨j, hj1, hj2⟩ := meet_iff.mp hm
            rw [diff_bit, Bool.and_eq_true] at hj2
            have hnb : ∀ i, (pairN x).testBit i = true → kb.set.testBit i = false := fun i hi => by
              cases hki : kb.set.testBit i with
              | false => rfl
              | true =>
                exfalso
                rcases hsh x hx hxs with h | ⟨h1, _⟩
                · obtain ⟨k', hk', xa, xb⟩ := shown_pair h (hs _ (hxs _ (all_c x)))
                  have e : k' = kb := part_one hpw hk' hkb (sub_pair (x := x) xa xb i hi) hki
                  subst e
                  have := sub_pair (x := x) xa xb j hj1
                  rw [this] at hj2; exact absurd hj2.2 (by decide)
                · rw [h1, pair_bit, Bool.or_eq_true, decide_eq_true_iff, decide_eq_true_iff] at hi
                  rcases hi with e | e
                  · rw [← e] at hki; exact eab (part_one hpw hka hkb hkaa hki)
                  · rw [← e] at hki; exact hbc (part_one hpw hkb hkc hki hkcc)
            intro i hi
            rw [diff_bit, hxs i (pair_sub x i hi), hnb i hi]; rfl
          have hkbl : kb.set.testBit (low p) = false := by
            cases h : kb.set.testBit (low p) with
            | false => rfl
            | true => exact absurd (part_one hpw hk hkb hkl h) e
          have h := hP.least p hp _ hQ (by rw [diff_bit, hls, hkbl]; rfl) b pb
          rw [diff_bit, hkbb] at h
          simp at h
      refine build_from hl h8 hn1 (fun e => ?_) fun p hp hp0 hp8 hpc hps => hlack p hp0 hp8 hpc hps (hlk p hp)
      obtain ⟨p, hp⟩ := List.length_eq_one_iff.mp e
      have hsp : SubN s p := fun i hi => by
        obtain ⟨q, hq, hqi⟩ := hP.all i hi
        rw [hp, List.mem_singleton] at hq
        rwa [hq] at hqi
      exact hlk p (by rw [hp]; exact List.mem_cons_self) ⟨hsp _ ha, hsp _ hb, hsp _ hc⟩
end Go.Proofs.YtdbbcngmnpejnaaDoor.A

/- What follows from triples, plain: the closure has them, a tree that shows them shows it, and it is its own closure. -/
namespace Go.Proofs.YtdbbcngmnpejnaaDoor.B
open Go.Proofs.YtdbbcngmnpejnaaDoor.A
open Go.RowKit Go.Proofs.YtdbbcngmnpejnaaDoorW.PrintWords Go.Proofs.YtdbbcngmnpejnaaDoorW.PrintMore
theorem showsB_swap (t : BT) (a b c : Nat) : showsB t a b c = showsB t b a c := by
  unfold showsB
  rw [Nat.or_comm]
theorem othA_mn {n : Int} {x : S44} (h : okTri n x = true) : (othA x).a = min x.a x.c ∧ (othA x).b = max x.a x.c ∧ (othA x).c = x.b := by
  have h1 := okTri_parts h
  unfold othA S44.a S44.b S44.c
  dsimp only
  refine ⟨?_, ?_, rfl⟩ <;> split <;> omega
theorem othB_mn {n : Int} {x : S44} (h : okTri n x = true) : (othB x).a = min x.b x.c ∧ (othB x).b = max x.b x.c ∧ (othB x).c = x.a := by
  have h1 := okTri_parts h
  unfold othB S44.a S44.b S44.c
  dsimp only
  refine ⟨?_, ?_, rfl⟩ <;> split <;> omega
theorem othA_ok {n : Int} {x : S44} (h : okTri n x = true) : okTri n (othA x) = true := by
  have h1 := okTri_parts h
  unfold othA okTri
  simp only [Bool.and_eq_true, decide_eq_true_iff]
  refine ⟨⟨⟨⟨⟨⟨?_, ?_⟩, ?_⟩, ?_⟩, ?_⟩, ?_⟩, ?_⟩ <;> (repeat split) <;> omega
theorem othB_ok {n : Int} {x : S44} (h : okTri n x = true) : okTri n (othB x) = true := by
  have h1 := okTri_parts h
  unfold othB okTri
  simp only [Bool.and_eq_true, decide_eq_true_iff]
  refine ⟨⟨⟨⟨⟨⟨?_, ?_⟩, ?_⟩, ?_⟩, ?_⟩, ?_⟩, ?_⟩ <;> (repeat split) <;> omega
theorem othA_shows {n : Int} {x : S44} (h : okTri n x = true) (t : BT) : shows3 t (othA x) = showsB t x.a x.c x.b := by
  obtain ⟨e1, e2, e3⟩ := othA_mn h
  exact shows3_mm e1 e2 e3 t
theorem othB_shows {n : Int} {x : S44} (h : okTri n x = true) (t : BT) : shows3 t (othB x) = showsB t x.b x.c x.a := by
  obtain ⟨e1, e2, e3⟩ := othB_mn h
  exact shows3_mm e1 e2 e3 t
section
variable {m : Nat} {l : List S44}
/-- A tree of all beasts that shows the triples. -/
def ShowsAll (m : Nat) (l : List S44) (t : BT) : Prop := t.Good ∧ t.set = 2 ^ m - 1 ∧ ∀ x ∈ l, shows3 t x = true
theorem build_iff (h1 : 1 ≤ m) (h8 : m ≤ 8) (hok : ∀ x ∈ l, okTri (m : Int) x = true) : (buildF l 9 (2 ^ m - 1)).isSome = true ↔ ∃ t, ShowsAll m l t := by
  have h3 : ∀ t ∈ l, Tri3 t := fun t ht => okTri_3 (by omega) (hok t ht)
  have hl8 : ∀ t ∈ l, Tri8 t := fun t ht => (h3 t ht).1
  have hs0 := full_ne h1
  have hs8 := full_256 h8
  have hpc : pcN (2 ^ m - 1) 8 < 9 := by have := pcN_le (2 ^ m - 1) 8; omega
  constructor
  · intro h
    cases hb : buildF l 9 (2 ^ m - 1) with
    | none => rw [hb] at h; cases h
    | some t =>
      obtain ⟨hg, hst⟩ := build_good hl8 9 _ t hs0 hs8 hb
      exact ⟨t, hg, hst, fun x hx => build_shows h3 9 _ t hs0 hs8 hb x hx (okTri_sub (hok x hx))⟩
  · rintro ⟨t, hg, hst, hsh⟩
    cases hb : buildF l 9 (2 ^ m - 1) with
    | some t => rfl
    | none => exact absurd hb (shows_build hl8 t hg 9 (2 ^ m - 1) hs0 hs8 hpc (by rw [hst]; exact SubN.refl _) fun x hx _ => hsh x hx)
theorem snoc_ok (hok : ∀ x ∈ l, okTri (m : Int) x = true) {y : S44} (hy : okTri (m : Int) y = true) : ∀ x ∈ l ++ [y], okTri (m : Int) x = true := fun x hx => by
  rcases List.mem_append.mp hx with h | h
  · exact hok x h
  · rw [List.mem_singleton.mp h]; exact hy
theorem can_iff (h1 : 1 ≤ m) (h8 : m ≤ 8) (hok : ∀ x ∈ l, okTri (m : Int) x = true) {y : S44} (hy : okTri (m : Int) y = true) : canB l (2 ^ m - 1) y = true ↔ ∃ t, ShowsAll m l t ∧ shows3 t y = true := by
  unfold canB
  rw [build_iff h1 h8 (snoc_ok hok hy)]
  constructor
  · rintro ⟨t, hg, hs, h⟩
    exact ⟨t, ⟨hg, hs, fun x hx => h x (List.mem_append_left _ hx)⟩, h y (by simp)⟩
  · rintro ⟨t, ⟨hg, hs, h⟩, hy⟩
    refine ⟨t, hg, hs, fun x hx => ?_⟩
    rcases List.mem_append.mp hx with h2 | h2
    · exact h x h2
    · rw [List.mem_singleton.mp h2]; exact hy
/-- All triples that follow. -/
def clF (m : Nat) (l : List S44) : List S44 := (allF m).filter fun x => !openB l (2 ^ m - 1) x
theorem cl_mem {x : S44} : x ∈ clF m l ↔ okTri (m : Int) x = true ∧ openB l (2 ^ m - 1) x = false := by
  unfold clF
  rw [List.mem_filter, all_mem, Bool.not_eq_true']
theorem open_false {s : Nat} {x : S44} : openB l s x = false ↔ canB l s (othA x) = false ∧ canB l s (othB x) = false := by
  unfold openB
  rw [Bool.or_eq_false_iff]
theorem cl_shown (h1 : 1 ≤ m) (h8 : m ≤ 8) (hok : ∀ x ∈ l, okTri (m : Int) x = true) {t : BT} (ht : ShowsAll m l t) {x : S44} (hx : x ∈ clF m l) : shows3 t x = true := by
  obtain ⟨hxo, hxc⟩ := cl_mem.mp hx
  obtain ⟨hca, hcb⟩ := open_false.mp hxc
  obtain ⟨hx8, n1, n2, n3⟩ := okTri_3 (n := (m : Int)) (by omega) hxo
  have hsub := okTri_sub hxo
  have ha := hsub x.a (pair_sub x _ (pair_a x))
  have hb := hsub x.b (pair_sub x _ (pair_b x))
  have hc := hsub x.c (all_c x)
  have hAo := othA_ok hxo
  have hBo := othB_ok hxo
  cases e1 : showsB t x.a x.b x.c with
  | true => exact e1
  | false =>
    exfalso
    cases e2 : showsB t x.a x.c x.b with
    | true =>
      have := (can_iff h1 h8 hok hAo).mpr ⟨t, ht, by rw [othA_shows hxo]; exact e2⟩
      rw [hca] at this; cases this
    | false =>
      cases e3 : showsB t x.b x.c x.a with
      | true =>
        have := (can_iff h1 h8 hok hBo).mpr ⟨t, ht, by rw [othB_shows hxo]; exact e3⟩
        rw [hcb] at this; cases this
      | false =>
        obtain ⟨hg, hs, hsh⟩ := ht
        have hl8 : ∀ y ∈ l ++ [othA x], Tri8 y := fun y hy => okTri_8 (n := (m : Int)) (by omega) (snoc_ok hok hAo y hy)
        have hob := open_build (l := l ++ [othA x]) hl8 x.a x.b x.c n1 n2 n3 t hg e1 e2 e3 9 (2 ^ m - 1) (full_256 h8) (by have := pcN_le (2 ^ m - 1) 8; omega) (by rw [hs]; exact SubN.refl _) ha hb hc (fun y hy _ => by
          rcases List.mem_append.mp hy with h2 | h2
          · exact .inl (hsh y h2)
          · rw [List.mem_singleton.mp h2]
            obtain ⟨p1, p2, p3⟩ := othA_mn hxo
            exact .inr ⟨pairN_mm p1 p2, p3⟩)
        unfold canB at hca
        cases hbb : buildF (l ++ [othA x]) 9 (2 ^ m - 1) with
        | none => exact hob hbb
        | some u => rw [hbb] at hca; cases hca
theorem cl_has (h1 : 1 ≤ m) (h8 : m ≤ 8) (hok : ∀ x ∈ l, okTri (m : Int) x = true) {x : S44} (hx : x ∈ l) : x ∈ clF m l := by
  have hxo := hok x hx
  obtain ⟨hx8, n1, n2, n3⟩ := okTri_3 (n := (m : Int)) (by omega) hxo
  have hsub := okTri_sub hxo
  have ha := hsub x.a (pair_sub x _ (pair_a x))
  have hb := hsub x.b (pair_sub x _ (pair_b x))
  have hc := hsub x.c (all_c x)
  refine cl_mem.mpr ⟨hxo, open_false.mpr ⟨?_, ?_⟩⟩
  · cases e : canB l (2 ^ m - 1) (othA x) with
    | false => rfl
    | true =>
      obtain ⟨t, ⟨hg, hs, hsh⟩, h2⟩ := (can_iff h1 h8 hok (othA_ok hxo)).mp e
      rw [othA_shows hxo] at h2
      rw [← hs] at ha hb hc
      rw [shows_once t hg _ _ _ ha hb hc n1 n2 n3 (hsh x hx)] at h2; cases h2
  · cases e : canB l (2 ^ m - 1) (othB x) with
    | false => rfl
    | true =>
      obtain ⟨t, ⟨hg, hs, hsh⟩, h2⟩ := (can_iff h1 h8 hok (othB_ok hxo)).mp e
      rw [othB_shows hxo] at h2
      rw [← hs] at ha hb hc
      have h3 : showsB t x.b x.a x.c = true := by rw [showsB_swap]; exact hsh x hx
      rw [shows_once t hg _ _ _ hb ha hc (Ne.symm n1) n3 n2 h3] at h2; cases h2
theorem cl_ok : ∀ x ∈ clF m l, okTri (m : Int) x = true := fun _ hx => (cl_mem.mp hx).1
theorem cl_all (h1 : 1 ≤ m) (h8 : m ≤ 8) (hok : ∀ x ∈ l, okTri (m : Int) x = true) {t : BT} : ShowsAll m (clF m l) t ↔ ShowsAll m l t :=
  ⟨fun ⟨hg, hs, h⟩ => ⟨hg, hs, fun x hx => h x (cl_has h1 h8 hok hx)⟩, fun ht => ⟨ht.1, ht.2.1, fun _ hx => cl_shown h1 h8 hok ht hx⟩⟩
theorem cl_can (h1 : 1 ≤ m) (h8 : m ≤ 8) (hok : ∀ x ∈ l, okTri (m : Int) x = true) {y : S44} (hy : okTri (m : Int) y = true) : canB (clF m l) (2 ^ m - 1) y = canB l (2 ^ m - 1) y := by
  rw [Bool.eq_iff_iff, can_iff h1 h8 cl_ok hy, can_iff h1 h8 hok hy]
  exact ⟨fun ⟨t, ht, h⟩ => ⟨t, (cl_all h1 h8 hok).mp ht, h⟩, fun ⟨t, ht, h⟩ => ⟨t, (cl_all h1 h8 hok).mpr ht, h⟩⟩
theorem cl_open (h1 : 1 ≤ m) (h8 : m ≤ 8) (hok : ∀ x ∈ l, okTri (m : Int) x = true) {x : S44} (hxo : okTri (m : Int) x = true) : openB (clF m l) (2 ^ m - 1) x = openB l (2 ^ m - 1) x := by
  unfold openB
  rw [cl_can h1 h8 hok (othA_ok hxo), cl_can h1 h8 hok (othB_ok hxo)]
theorem cl_cl (h1 : 1 ≤ m) (h8 : m ≤ 8) (hok : ∀ x ∈ l, okTri (m : Int) x = true) : clF m (clF m l) = clF m l := by
  show (allF m).filter (fun x => !openB (clF m l) (2 ^ m - 1) x) = (allF m).filter fun x => !openB l (2 ^ m - 1) x
  exact List.filter_congr fun x hx => by rw [cl_open h1 h8 hok (all_mem.mp hx)]
theorem cl_build (h1 : 1 ≤ m) (h8 : m ≤ 8) (hok : ∀ x ∈ l, okTri (m : Int) x = true) : (buildF (clF m l) 9 (2 ^ m - 1)).isSome = (buildF l 9 (2 ^ m - 1)).isSome := by
  rw [Bool.eq_iff_iff, build_iff h1 h8 cl_ok, build_iff h1 h8 hok]
  exact ⟨fun ⟨t, ht⟩ => ⟨t, (cl_all h1 h8 hok).mp ht⟩, fun ⟨t, ht⟩ => ⟨t, (cl_all h1 h8 hok).mpr ht⟩⟩
end
end Go.Proofs.YtdbbcngmnpejnaaDoor.B

/- The reference's least and size, as the kit's print writes them. -/
namespace Go.Proofs.YtdbbcngmnpejnaaDoor.B
open Go.Proofs.YtdbbcngmnpejnaaDoor.A
open Go.RowKit Go.Proofs.YtdbbcngmnpejnaaDoorW.PrintWords Go.Proofs.YtdbbcngmnpejnaaDoorW.PrintLast Go.Proofs.YtdbbcngmnpejnaaDoorW.PrintMore
section
attribute [local go_sem] max2_int min2_int max_two min_two max_three min_three max_four min_four   -- for this text's walks alone
set_option linter.unusedVariables false
set_option linter.unusedSimpArgs false
/-! ### drovewayref05_least: function 71 -/
def drovewayref05_least.l0 : Nat → Int → Int → Option (Int)
  | 0, _, _ => none
  | k + 1, x0, x3 => if 0 ≤ x3 then (if (Int.tmod (shr .i64 x0 x3) 2) = 0 then (drovewayref05_least.l0 k x0 (wrap64 (x3 + 1))) else (some x3)) else (none)
def drovewayref05_least.f (k : Nat) (a0 : Int) : Option (Int) := drovewayref05_least.l0 k a0 0
/-! ### drovewayref05_size: function 49 -/
def drovewayref05_size.l0 : Nat → Int → Int → Option (Int)
  | 0, _, _ => none
  | k + 1, x0, x3 => if x0 > 0 then (drovewayref05_size.l0 k (wrap64 (Int.tdiv x0 2)) (wrap64 (x3 + (Int.tmod x0 2)))) else (some x3)
def drovewayref05_size.f (k : Nat) (a0 : Int) : Option (Int) := drovewayref05_size.l0 k a0 0
end
end Go.Proofs.YtdbbcngmnpejnaaDoor.B

/- The reference's reader, as the kit's print writes it. -/
namespace Go.Proofs.YtdbbcngmnpejnaaDoor.B
open Go.Proofs.YtdbbcngmnpejnaaDoor.A
open Go.RowKit Go.Proofs.YtdbbcngmnpejnaaDoorW.PrintWords Go.Proofs.YtdbbcngmnpejnaaDoorW.PrintLast Go.Proofs.YtdbbcngmnpejnaaDoorW.PrintMore
section
attribute [local go_sem] max2_int min2_int max_two min_two max_three min_three max_four min_four   -- for this text's walks alone
set_option linter.unusedVariables false
set_option linter.unusedSimpArgs false
/-! ### drovewayref05_read: function 78 -/
mutual
def drovewayref05_read.j0 : Nat → Int → ByteArray → Int → Bool → Option (Int × (List (S85)) × Int × Bool)
  | 0, _, _, _, _ => none
  | k + 1, x0, x1, x2, x30 => if x30 = true then (if 0 ≤ x2 then (if x2 < (x1.size : Int) then (some (shl .i64 1 (((bt x1 x2) - 48) % 256), ([] : List (S85)), wrap64 (x2 + 1), true)) else (none)) else (none)) else (if 0 ≤ x2 then (if x2 < (x1.size : Int) then (if (bt x1 x2) = 40 then (drovewayref05_read.l0 k x0 x1 x2 0 ([] : List (S85))) else (some (0, ([] : List (S85)), 0, false))) else (none)) else (none))
def drovewayref05_read.l0 : Nat → Int → ByteArray → Int → Int → List (S85) → Option (Int × (List (S85)) × Int × Bool)
  | 0, _, _, _, _, _ => none
  | k + 1, x0, x1, x2, x263000, x263001 => (drovewayref05_read.f k x0 x1 (wrap64 (x2 + 1))).bind fun bt263 => (if bt263.2.2.2 = true then (if bt263.2.2.1 ≥ (x1.size : Int) then (drovewayref05_read.j2 k x0 x1 bt263.2.2.1 true x263000 x263001 bt263.1 bt263.2.1) else (drovewayref05_read.j2 k x0 x1 bt263.2.2.1 ((Go.bits .and .i64 x263000 bt263.1) != 0) x263000 x263001 bt263.1 bt263.2.1)) else (drovewayref05_read.j2 k x0 x1 bt263.2.2.1 true x263000 x263001 bt263.1 bt263.2.1))
def drovewayref05_read.j2 : Nat → Int → ByteArray → Int → Bool → Int → List (S85) → Int → List (S85) → Option (Int × (List (S85)) × Int × Bool)
  | 0, _, _, _, _, _, _, _, _ => none
  | k + 1, x0, x1, x11, x70, x263000, x263001, x270000, x270001 => if x70 = true then (some (0, ([] : List (S85)), 0, false)) else (if (x263001.length : Int) > 0 then ((drovewayref05_least.f k x270000).bind fun t270 => (if 0 ≤ (wrap64 ((x263001.length : Int) - 1)) then (if (wrap64 ((x263001.length : Int) - 1)) < (x263001.length : Int) then ((drovewayref05_least.f k ((rd_T85 x263001 (wrap64 ((x263001.length : Int) - 1))).f0)).bind fun t272 => (drovewayref05_read.j3 k x0 x1 x11 (decide (t270 < t272)) x263000 x263001 x270000 x270001)) else (none)) else (none))) else (drovewayref05_read.j3 k x0 x1 x11 false x263000 x263001 x270000 x270001))
def drovewayref05_read.j3 : Nat → Int → ByteArray → Int → Bool → Int → List (S85) → Int → List (S85) → Option (Int × (List (S85)) × Int × Bool)
  | 0, _, _, _, _, _, _, _, _ => none
  | k + 1, x0, x1, x11, x91, x263000, x263001, x270000, x270001 => if x91 = true then (some (0, ([] : List (S85)), 0, false)) else (if x263001.length < 4398046511104 then ((some (x263001 ++ [(⟨x270000, x270001⟩ : S85)] : List (S85))).bind fun y273 => (if 0 ≤ x11 then (if x11 < (x1.size : Int) then (if (bt x1 x11) = 41 then (some (Go.bits .or .i64 x263000 x270000, y273, wrap64 (x11 + 1), decide ((y273.length : Int) ≥ 2))) else (if (bt x1 x11) = 44 then (drovewayref05_read.l0 k x0 x1 x11 (Go.bits .or .i64 x263000 x270000) y273) else (some (0, ([] : List (S85)), 0, false)))) else (none)) else (none))) else (none))
def drovewayref05_read.f : Nat → Int → ByteArray → Int → Option (Int × (List (S85)) × Int × Bool)
  | 0, _, _, _ => none
  | k + 1, a0, a1, a2 => if a2 ≥ (a1.size : Int) then (some (0, ([] : List (S85)), 0, false)) else (if 0 ≤ a2 then (if a2 < (a1.size : Int) then (if (bt a1 a2) ≥ 48 then (drovewayref05_read.j0 k a0 a1 a2 (decide ((((bt a1 a2) - 48) % 256) < a0))) else (drovewayref05_read.j0 k a0 a1 a2 false)) else (none)) else (none))
end
end
end Go.Proofs.YtdbbcngmnpejnaaDoor.B

/- The reference's tree and IsTree, as the kit's print writes them. -/
namespace Go.Proofs.YtdbbcngmnpejnaaDoor.B
open Go.Proofs.YtdbbcngmnpejnaaDoor.A
open Go.RowKit Go.Proofs.YtdbbcngmnpejnaaDoorW.PrintWords Go.Proofs.YtdbbcngmnpejnaaDoorW.PrintLast Go.Proofs.YtdbbcngmnpejnaaDoorW.PrintMore
section
attribute [local go_sem] max2_int min2_int max_two min_two max_three min_three max_four min_four   -- for this text's walks alone
set_option linter.unusedVariables false
set_option linter.unusedSimpArgs false
/-! ### drovewayref05_tree: function 62 -/
def drovewayref05_tree.f (k : Nat) (a0 : Int) (a1 : ByteArray) : Option (Int × (List (S85)) × Bool) := if a0 < 1 then (some (0, ([] : List (S85)), false)) else (if a0 > 8 then (some (0, ([] : List (S85)), false)) else ((drovewayref05_read.f k a0 a1 0).bind fun bt277 => (if bt277.2.2.2 = true then (if bt277.2.2.1 = (a1.size : Int) then (if 0 ≤ a0 then (some (bt277.1, bt277.2.1, (bt277.1 == (wrap64 ((shl .i64 1 a0) - 1))))) else (none)) else (some (bt277.1, bt277.2.1, false))) else (some (bt277.1, bt277.2.1, false)))))
/-! ### drovewayref05_IsTree: function 33 -/
def drovewayref05_IsTree.f (k : Nat) (a0 : Int) (a1 : ByteArray) : Option (Bool) := (drovewayref05_tree.f k a0 a1).bind fun bt279 => (some bt279.2.2)
end
end Go.Proofs.YtdbbcngmnpejnaaDoor.B

/- The reference's asked, as the kit's print writes it. -/
namespace Go.Proofs.YtdbbcngmnpejnaaDoor.B
open Go.Proofs.YtdbbcngmnpejnaaDoor.A
open Go.RowKit Go.Proofs.YtdbbcngmnpejnaaDoorW.PrintWords Go.Proofs.YtdbbcngmnpejnaaDoorW.PrintLast Go.Proofs.YtdbbcngmnpejnaaDoorW.PrintMore
section
attribute [local go_sem] max2_int min2_int max_two min_two max_three min_three max_four min_four   -- for this text's walks alone
set_option linter.unusedVariables false
set_option linter.unusedSimpArgs false
/-! ### drovewayref05_asked: function 54 -/
def drovewayref05_asked.j0 : Nat → Int → ByteArray → Bool → Option (Int × (List (S85)) × Int)
  | 0, _, _, _ => none
  | k + 1, x0, x1, x13 => if x13 = true then (some (0, ([] : List (S85)), 2)) else ((drovewayref05_tree.f k x0 x1).bind fun bt285 => (if bt285.2.2 = true then (some (bt285.1, bt285.2.1, 0)) else (some (0, ([] : List (S85)), 5))))
def drovewayref05_asked.f (k : Nat) (a0 : Int) (a1 : ByteArray) : Option (Int × (List (S85)) × Int) := if a0 < 1 then (drovewayref05_asked.j0 k a0 a1 true) else (drovewayref05_asked.j0 k a0 a1 (decide (a0 > 8)))
end
end Go.Proofs.YtdbbcngmnpejnaaDoor.B

/- The reference's family, shows and Shows, as the kit's print writes them. -/
namespace Go.Proofs.YtdbbcngmnpejnaaDoor.B
open Go.Proofs.YtdbbcngmnpejnaaDoor.A
open Go.RowKit Go.Proofs.YtdbbcngmnpejnaaDoorW.PrintWords Go.Proofs.YtdbbcngmnpejnaaDoorW.PrintLast Go.Proofs.YtdbbcngmnpejnaaDoorW.PrintMore
section
attribute [local go_sem] max2_int min2_int max_two min_two max_three min_three max_four min_four   -- for this text's walks alone
set_option linter.unusedVariables false
set_option linter.unusedSimpArgs false
/-! ### drovewayref05_family: function 76 -/
mutual
def drovewayref05_family.l0 : Nat → Int → Int → Int → List (S85) → Option (Int)
  | 0, _, _, _, _ => none
  | k + 1, x1, x5, x292000, x292001 => if x5 < (x292001.length : Int) then (if 0 ≤ x5 then (if (Go.bits .andNot .i64 x1 ((rd_T85 x292001 x5).f0)) = 0 then ((drovewayref05_family.f k ((rd_T85 x292001 x5).f0) ((rd_T85 x292001 x5).f1) x1).bind fun t294 => (some t294)) else (drovewayref05_family.l0 k x1 (wrap64 (x5 + 1)) x292000 x292001)) else (none)) else (some x292000)
def drovewayref05_family.f : Nat → Int → List (S85) → Int → Option (Int)
  | 0, _, _, _ => none
  | k + 1, a0_0, l0_1, a1 => drovewayref05_family.l0 k a1 0 a0_0 l0_1
end
/-! ### drovewayref05_shows: function 60 -/
def drovewayref05_shows.f (k : Nat) (a0_0 : Int) (l0_1 : List (S85)) (a1_0 : Int) (a1_1 : Int) (a1_2 : Int) : Option (Bool) := if 0 ≤ a1_0 then (if 0 ≤ a1_1 then ((drovewayref05_family.f k a0_0 l0_1 (Go.bits .or .i64 (shl .i64 1 a1_0) (shl .i64 1 a1_1))).bind fun t297 => (if 0 ≤ a1_2 then (some ((Int.tmod (shr .i64 t297 a1_2) 2) == 0)) else (none))) else (none)) else (none)
/-! ### drovewayref05_Shows: function 29 -/
mutual
def drovewayref05_Shows.j0 : Nat → List (S44) → Int → Int → List (S85) → Option (Bool × Int)
  | 0, _, _, _, _ => none
  | k + 1, x2, x9, x304000, x304001 => if x9 = 0 then (drovewayref05_Shows.l0 k x2 0 x304000 x304001) else (some (false, x9))
def drovewayref05_Shows.l0 : Nat → List (S44) → Int → Int → List (S85) → Option (Bool × Int)
  | 0, _, _, _, _ => none
  | k + 1, x2, x10, x304000, x304001 => if x10 < (x2.length : Int) then (if 0 ≤ x10 then ((drovewayref05_shows.f k x304000 x304001 ((rd_T44 x2 x10).f0) ((rd_T44 x2 x10).f1) ((rd_T44 x2 x10).f2)).bind fun t306 => (if t306 = true then (drovewayref05_Shows.l0 k x2 (wrap64 (x10 + 1)) x304000 x304001) else (some (false, 0)))) else (none)) else (some (true, 0))
end
def drovewayref05_Shows.f (k : Nat) (a0 : Int) (a1 : ByteArray) (l2 : List (S44)) : Option (Bool × Int) := (drovewayref05_asked.f k a0 a1).bind fun bt298 => (if bt298.2.2 = 0 then ((drovewayref05_List.f k a0 l2).bind fun t304 => (drovewayref05_Shows.j0 k l2 t304 bt298.1 bt298.2.1)) else (drovewayref05_Shows.j0 k l2 bt298.2.2 bt298.1 bt298.2.1))
end
end Go.Proofs.YtdbbcngmnpejnaaDoor.B

/- in, as the kit's print writes it. -/
namespace Go.Proofs.YtdbbcngmnpejnaaDoor.B
open Go.Proofs.YtdbbcngmnpejnaaDoor.A
open Go.RowKit Go.Proofs.YtdbbcngmnpejnaaDoorW.PrintWords Go.Proofs.YtdbbcngmnpejnaaDoorW.PrintLast Go.Proofs.YtdbbcngmnpejnaaDoorW.PrintMore
section
attribute [local go_sem] max2_int min2_int max_two min_two max_three min_three max_four min_four   -- for this text's walks alone
set_option linter.unusedVariables false
set_option linter.unusedSimpArgs false
attribute [local go_sem high] eqA44
/-! ### drovewaylaw05_in: function 36 -/
def drovewaylaw05_in.l0 : Nat → List (S44) → Int → Int → Int → Int → Option (Bool)
  | 0, _, _, _, _, _ => none
  | k + 1, x0, x5, x292000, x292001, x292002 => if x5 < (x0.length : Int) then (if 0 ≤ x5 then (if (((rd_T44 x0 x5).f0) == x292000 && (((rd_T44 x0 x5).f1) == x292001 && (((rd_T44 x0 x5).f2) == x292002))) = true then (some true) else (drovewaylaw05_in.l0 k x0 (wrap64 (x5 + 1)) x292000 x292001 x292002)) else (none)) else (some false)
def drovewaylaw05_in.f (k : Nat) (l0 : List (S44)) (a1_0 : Int) (a1_1 : Int) (a1_2 : Int) : Option (Bool) := drovewaylaw05_in.l0 k l0 0 a1_0 a1_1 a1_2
set_option maxHeartbeats 8000000 in
set_option maxRecDepth 100000 in
theorem drovewaylaw05_in.calls (k : Nat) (A0 : Option Addr) (c0 : Nat) (l0 : List (S44)) (a1_0 : Int) (a1_1 : Int) (a1_2 : Int) (r : Bool) (w : World) (hr0 : Kd.C k44 w A0 l0.length l0) (hc0 : l0.length ≤ c0) (h : drovewaylaw05_in.f k l0 a1_0 a1_1 a1_2 = some r) :
    Calls Tryd.prog 36 #[.slice A0 l0.length c0, .agg #[.int .i64 a1_0, .int .i64 a1_1, .int .i64 a1_2]] w fun e w' => e = .returned (.bool r) ∧ Below w.heap.size w w' := by
  have hu44 := Tryd.underlying44
  have HR0 := Aside0.mk hr0
  have HC0 := Aside0.mk hc0
  clear hr0 hc0
  have HB := Aside0.mk (Below.refl w.heap.size w)
  have H : (drovewaylaw05_in.l0 k l0 0 a1_0 a1_1 a1_2) = some r := h
  clear h
  have H' := Aside0.mk H
  clear H
  go_enter Tryd.func36, Tryd.ntmps36
  go_wp2_with (first | ((with_reducible refine gate_dst (N := 3) rfl ?_); refine box_event ?hg (N := 3) ?hd (cs := #[.int .i64 a1_0, .int .i64 a1_1, .int .i64 a1_2]) (t := 44) ?hr ?_; (case hd => rfl); (case hg => rfl); (case hr => first | (go_simp; done) | (go_simp; rfl)); intro gb291 hg w3 hbox hb; have n0_ := Aside0.mk (below_step (by repeat (first | (with_reducible first | exact HB.out | apply below_alloc | apply pw_below_drewN | apply below_drew1) | exact HB.out)) hb); have n1_ := Aside0.mk (hbox); have n2_ := Aside0.mk ((by rw [hg]; exact (below_size (by repeat (first | (with_reducible first | exact HB.out | apply below_alloc | apply pw_below_drewN | apply below_drew1) | exact HB.out))) : w.heap.size ≤ gb291)); have n3_ := Aside0.mk ((by rw [hg]; exact (below_size (by repeat (first | (with_reducible first | exact HB.out | apply below_alloc | apply pw_below_drewN | apply below_drew1) | exact HB.out))) : w.heap.size ≤ gb291)); clear HB; have HB := n0_; have BK291 := n1_; have GW291 := n2_; have GE291 := n3_; clear n0_ n1_ n2_ n3_; clear hb hbox hg))
  repeat (go_quiet (first | ((with_reducible refine gate_dst (N := 3) rfl ?_); refine box_event ?hg (N := 3) ?hd (cs := #[.int .i64 a1_0, .int .i64 a1_1, .int .i64 a1_2]) (t := 44) ?hr ?_; (case hd => rfl); (case hg => rfl); (case hr => first | (go_simp; done) | (go_simp; rfl)); intro gb291 hg w3 hbox hb; have n0_ := Aside0.mk (below_step (by repeat (first | (with_reducible first | exact HB.out | apply below_alloc | apply pw_below_drewN | apply below_drew1) | exact HB.out)) hb); have n1_ := Aside0.mk (hbox); have n2_ := Aside0.mk ((by rw [hg]; exact (below_size (by repeat (first | (with_reducible first | exact HB.out | apply below_alloc | apply pw_below_drewN | apply below_drew1) | exact HB.out))) : w.heap.size ≤ gb291)); have n3_ := Aside0.mk ((by rw [hg]; exact (below_size (by repeat (first | (with_reducible first | exact HB.out | apply below_alloc | apply pw_below_drewN | apply below_drew1) | exact HB.out))) : w.heap.size ≤ gb291)); clear HB; have HB := n0_; have BK291 := n1_; have GW291 := n2_; have GE291 := n3_; clear n0_ n1_ n2_ n3_; clear hb hbox hg)); try go_wp2_with (first | ((with_reducible refine gate_dst (N := 3) rfl ?_); refine box_event ?hg (N := 3) ?hd (cs := #[.int .i64 a1_0, .int .i64 a1_1, .int .i64 a1_2]) (t := 44) ?hr ?_; (case hd => rfl); (case hg => rfl); (case hr => first | (go_simp; done) | (go_simp; rfl)); intro gb291 hg w3 hbox hb; have n0_ := Aside0.mk (below_step (by repeat (first | (with_reducible first | exact HB.out | apply below_alloc | apply pw_below_drewN | apply below_drew1) | exact HB.out)) hb); have n1_ := Aside0.mk (hbox); have n2_ := Aside0.mk ((by rw [hg]; exact (below_size (by repeat (first | (with_reducible first | exact HB.out | apply below_alloc | apply pw_below_drewN | apply below_drew1) | exact HB.out))) : w.heap.size ≤ gb291)); have n3_ := Aside0.mk ((by rw [hg]; exact (below_size (by repeat (first | (with_reducible first | exact HB.out | apply below_alloc | apply pw_below_drewN | apply below_drew1) | exact HB.out))) : w.heap.size ≤ gb291)); clear HB; have HB := n0_; have BK291 := n1_; have GW291 := n2_; have GE291 := n3_; clear n0_ n1_ n2_ n3_; clear hb hbox hg)))
  go_loopg [5] k (fun kq v5 w' => ∃ (x5_1 : Int), v5 = .int .i64 x5_1 ∧ Aside0 (drovewaylaw05_in.l0 kq l0 x5_1 a1_0 a1_1 a1_2 = some r) ∧ Aside0 (kq ≤ k) ∧ Aside0 (w'.heap[gb291]? = some (.cells #[.int .i64 a1_0, .int .i64 a1_1, .int .i64 a1_2] 44 (0, 0))) ∧ Aside0 (Below w.heap.size w w'))
  case atStart => exact ⟨(0), (by first | rfl | (simp; done) | (simp [*]; done)), H', ⟨Nat.le_refl _⟩, ⟨by (with_reducible repeat (first | refine blk_drewN ?_ _ | refine blk_drew ?_ | refine blk_alloc ?_ _)); exact BK291.out⟩, ⟨by repeat (first | (with_reducible first | exact HB.out | apply below_alloc | apply pw_below_drewN | apply below_drew1 | refine below_set ?_ GE291.out) | exact HB.out)⟩⟩
  case round =>
    clear H'
    try clear p2
    try clear c3
    obtain ⟨x5_1, rfl, HA, HK1, BK291, HB⟩ := hrel
    cases gk with
    | zero => exact absurd HA.out (by simp [drovewaylaw05_in.l0])
    | succ k1 =>
      have H := HA.out
      clear HA
      simp only [drovewaylaw05_in.l0] at H
      by_cases c4 : x5_1 < (l0.length : Int)
      · rw [if_pos c4] at H
        have c4b0 : decide (x5_1 < (l0.length : Int)) = true := decide_eq_true c4
        clear c4
        by_cases c5 : 0 ≤ x5_1
        · rw [if_pos c5] at H
          have c5b0 : decide (0 ≤ x5_1) = true := decide_eq_true c5
          clear c5
          by_cases c6 : (((rd_T44 l0 x5_1).f0) == a1_0 && (((rd_T44 l0 x5_1).f1) == a1_1 && (((rd_T44 l0 x5_1).f2) == a1_2))) = true
          · rw [if_pos c6] at H
            have c6b0 : (((rd_T44 l0 x5_1).f0) == a1_0 && (((rd_T44 l0 x5_1).f1) == a1_1 && (((rd_T44 l0 x5_1).f2) == a1_2))) = true := c6
            (try (have c6b1 : decide (((rd_T44 l0 x5_1).f0) = a1_0 && (((rd_T44 l0 x5_1).f1) == a1_1 && (((rd_T44 l0 x5_1).f2) == a1_2))) = true := by simpa using c6))
            (try (have c6b2 : (((rd_T44 l0 x5_1).f0) == a1_0 && (((rd_T44 l0 x5_1).f1) == a1_1 && (((rd_T44 l0 x5_1).f2) == a1_2))) = true := by simpa using c6))
            clear c6
            obtain rfl := Option.some.inj H
            have p292 : 0 ≤ (x5_1 : Int) := of_decide_eq_true (by first | (with_reducible assumption) | assumption)
            have q292 : x5_1 < (l0.length : Int) := of_decide_eq_true (by first | (with_reducible assumption) | assumption)
            obtain ⟨ad292, e292, hx292_0, hx292_1, hx292_2⟩ := at_T44 HR0.out x5_1 p292 q292
            cases e292
            replace hx292_0 := (HB.out.cell (World.block_lt_of_cell? w _ hx292_0)).trans hx292_0
            replace hx292_1 := (HB.out.cell (World.block_lt_of_cell? w _ hx292_1)).trans hx292_1
            replace hx292_2 := (HB.out.cell (World.block_lt_of_cell? w _ hx292_2)).trans hx292_2
            replace p292 := eq_true p292
            replace q292 := eq_true q292
            have hcz7_0 : wr.cell? ⟨gb291, 0, none⟩ = some (.int .i64 a1_0) := (blk_cell BK291.out 0).trans rfl
            have hcz7_1 : wr.cell? ⟨gb291, 1, none⟩ = some (.int .i64 a1_1) := (blk_cell BK291.out 1).trans rfl
            have hcz7_2 : wr.cell? ⟨gb291, 2, none⟩ = some (.int .i64 a1_2) := (blk_cell BK291.out 2).trans rfl
            have hfz7_0 := blk_frozen BK291.out 0
            have hfz7_1 := blk_frozen BK291.out 1
            have hfz7_2 := blk_frozen BK291.out 2
            go_wp2
            repeat (go_quiet (fail); try go_wp2)
            go_ret
            exact ⟨by first | rfl | (simp [errW_none, errW_some] <;> rfl) | (simp [*, errW_none, errW_some] <;> rfl), by repeat (first | (with_reducible first | exact HB.out | apply below_alloc | apply pw_below_drewN | apply below_drew1 | refine below_set ?_ GE291.out) | exact HB.out)⟩
          · rw [if_neg c6] at H
            have c6b0 : (((rd_T44 l0 x5_1).f0) == a1_0 && (((rd_T44 l0 x5_1).f1) == a1_1 && (((rd_T44 l0 x5_1).f2) == a1_2))) = false := by simpa using c6
            (try (have c6b1 : decide (((rd_T44 l0 x5_1).f0) = a1_0 && (((rd_T44 l0 x5_1).f1) == a1_1 && (((rd_T44 l0 x5_1).f2) == a1_2))) = false := by simpa using c6))
            (try (have c6b2 : (((rd_T44 l0 x5_1).f0) == a1_0 && (((rd_T44 l0 x5_1).f1) == a1_1 && (((rd_T44 l0 x5_1).f2) == a1_2))) = false := by simpa using c6))
            (try (have c6b3 : ¬ (((rd_T44 l0 x5_1).f0) = a1_0 && (((rd_T44 l0 x5_1).f1) == a1_1 && (((rd_T44 l0 x5_1).f2) == a1_2))) := by simpa using c6))
            clear c6
            have H' := Aside0.mk H
            clear H
            have p292 : 0 ≤ (x5_1 : Int) := of_decide_eq_true (by first | (with_reducible assumption) | assumption)
            have q292 : x5_1 < (l0.length : Int) := of_decide_eq_true (by first | (with_reducible assumption) | assumption)
            obtain ⟨ad292, e292, hx292_0, hx292_1, hx292_2⟩ := at_T44 HR0.out x5_1 p292 q292
            cases e292
            replace hx292_0 := (HB.out.cell (World.block_lt_of_cell? w _ hx292_0)).trans hx292_0
            replace hx292_1 := (HB.out.cell (World.block_lt_of_cell? w _ hx292_1)).trans hx292_1
            replace hx292_2 := (HB.out.cell (World.block_lt_of_cell? w _ hx292_2)).trans hx292_2
            replace p292 := eq_true p292
            replace q292 := eq_true q292
            have hcz8_0 : wr.cell? ⟨gb291, 0, none⟩ = some (.int .i64 a1_0) := (blk_cell BK291.out 0).trans rfl
            have hcz8_1 : wr.cell? ⟨gb291, 1, none⟩ = some (.int .i64 a1_1) := (blk_cell BK291.out 1).trans rfl
            have hcz8_2 : wr.cell? ⟨gb291, 2, none⟩ = some (.int .i64 a1_2) := (blk_cell BK291.out 2).trans rfl
            have hfz8_0 := blk_frozen BK291.out 0
            have hfz8_1 := blk_frozen BK291.out 1
            have hfz8_2 := blk_frozen BK291.out 2
            go_wp2
            repeat (go_quiet (fail); try go_wp2)
            go_roundg k1
            case measure => have := HK1.out; omega
            case rel => exact ⟨(wrap64 (x5_1 + 1)), (by first | rfl | (simp; done) | (simp [*]; done)), H', ⟨by have := HK1.out; omega⟩, ⟨by (with_reducible repeat (first | refine blk_drewN ?_ _ | refine blk_drew ?_ | refine blk_alloc ?_ _)); exact BK291.out⟩, ⟨by repeat (first | (with_reducible first | exact HB.out | apply below_alloc | apply pw_below_drewN | apply below_drew1 | refine below_set ?_ GE291.out) | exact HB.out)⟩⟩
        · rw [if_neg c5] at H
          exact absurd H (by simp)
      · rw [if_neg c4] at H
        have c4b0 : decide (x5_1 < (l0.length : Int)) = false := decide_eq_false c4
        clear c4
        obtain rfl := Option.some.inj H
        go_wp2
        repeat (go_quiet (fail); try go_wp2)
        go_ret
        exact ⟨by first | rfl | (simp [errW_none, errW_some] <;> rfl) | (simp [*, errW_none, errW_some] <;> rfl), by repeat (first | (with_reducible first | exact HB.out | apply below_alloc | apply pw_below_drewN | apply below_drew1 | refine below_set ?_ GE291.out) | exact HB.out)⟩

end
end Go.Proofs.YtdbbcngmnpejnaaDoor.B

/- The reference's Count, as the kit's print writes it; its drawn region by hand. -/
namespace Go.Proofs.YtdbbcngmnpejnaaDoor.B
open Go.Proofs.YtdbbcngmnpejnaaDoor.A
open Go.RowKit Go.Proofs.YtdbbcngmnpejnaaDoorW.PrintWords Go.Proofs.YtdbbcngmnpejnaaDoorW.PrintLast Go.Proofs.YtdbbcngmnpejnaaDoorW.PrintMore
section
attribute [local go_sem] max2_int min2_int max_two min_two max_three min_three max_four min_four   -- for this text's walks alone
set_option linter.unusedVariables false
set_option linter.unusedSimpArgs false
/-! ### drovewayref05_Count: function 14 -/
mutual
def drovewayref05_Count.j0 : Nat → Int → Bool → Option (Int × Int)
  | 0, _, _ => none
  | k + 1, x0, x14 => if x14 = true then (some (0, 2)) else (drovewayref05_Count.l0 k x0 (([0, 1] : List Int)) (([1, 1] : List Int)) 2)
def drovewayref05_Count.l0 : Nat → Int → List Int → List Int → Int → Option (Int × Int)
  | 0, _, _, _, _ => none
  | k + 1, x0, x4, x5, x6 => if x6 ≤ x0 then (drovewayref05_Count.l1 k x0 x4 x5 x6 0 1) else (if 0 ≤ x0 then (if x0 < (x4.length : Int) then (some (rd x4 x0, 0)) else (none)) else (none))
def drovewayref05_Count.l1 : Nat → Int → List Int → List Int → Int → Int → Int → Option (Int × Int)
  | 0, _, _, _, _, _, _ => none
  | k + 1, x0, x4, x5, x6, x7, x8 => if x8 < x6 then ((drovewayref05_choose.f k (wrap64 (x6 - 1)) (wrap64 (x8 - 1))).bind fun t123 => (if 0 ≤ x8 then (if x8 < (x4.length : Int) then (if 0 ≤ (wrap64 (x6 - x8)) then (if (wrap64 (x6 - x8)) < (x5.length : Int) then (drovewayref05_Count.l1 k x0 x4 x5 x6 (wrap64 (x7 + (wrap64 ((wrap64 (t123 * (rd x4 x8))) * (rd x5 (wrap64 (x6 - x8))))))) (wrap64 (x8 + 1))) else (none)) else (none)) else (none)) else (none))) else (if x4.length < 17592186044416 then (if x5.length < 17592186044416 then (drovewayref05_Count.l0 k x0 (x4 ++ [x7]) (x5 ++ [wrap64 (2 * x7)]) (wrap64 (x6 + 1))) else (none)) else (none))
end
def drovewayref05_Count.f (k : Nat) (a0 : Int) : Option (Int × Int) := if a0 < 1 then (drovewayref05_Count.j0 k a0 true) else (drovewayref05_Count.j0 k a0 (decide (a0 > 8)))
end
end Go.Proofs.YtdbbcngmnpejnaaDoor.B

/- Count and the reference's Count give the same. -/
namespace Go.Proofs.YtdbbcngmnpejnaaDoor.B
open Go.Proofs.YtdbbcngmnpejnaaDoor.A
open Go.RowKit Go.Proofs.YtdbbcngmnpejnaaDoorW.PrintWords Go.Proofs.YtdbbcngmnpejnaaDoorW.PrintMore
def countE (n : Int) : Int × Int := if 1 ≤ n ∧ n ≤ 8 then (([0, 1, 1, 4, 26, 236, 2752, 39208, 660032] : List Int).getD n.toNat 0, 0) else (0, 2)
theorem count_in : (List.range 9).all (fun n => n == 0 || (decide (breed_Count.f 80 (n : Int) = some (countE n)) && decide (drovewayref05_Count.f 160 (n : Int) = some (countE n)))) = true := by decide +kernel
theorem count_some (n : Int) : ∃ k, breed_Count.f k n = some (countE n) := by
  by_cases h : 1 ≤ n ∧ n ≤ 8
  · have h1 := List.all_eq_true.1 count_in n.toNat (List.mem_range.2 (by omega))
    have h2 : ((n.toNat : Nat) : Int) = n := by omega
    have h3 : (n.toNat == 0) = false := by rw [beq_eq_false_iff_ne]; omega
    rw [h2, h3, Bool.false_or, Bool.and_eq_true, decide_eq_true_iff, decide_eq_true_iff] at h1
    exact ⟨80, h1.1⟩
  · refine ⟨1, ?_⟩
    unfold breed_Count.f breed_herd.f countE
    rw [if_neg h]
    by_cases h1 : n ≥ 1
    · rw [if_pos h1, Option.bind_some, if_neg (by rw [decide_eq_true_iff]; omega)]
    · rw [if_neg h1, Option.bind_some, if_neg Bool.false_ne_true]
theorem Count_calls (n : Int) (W : World) : Calls Tryd.prog 13 #[.int .i64 n] W fun e w' => e = .returned (.tuple #[.int .i64 (countE n).1, .int .i64 (countE n).2]) ∧ Below W.heap.size W w' := by
  obtain ⟨k, hk⟩ := count_some n
  exact (breed_Count.calls k n _ _ W hk).mono fun _ _ h => h
end Go.Proofs.YtdbbcngmnpejnaaDoor.B

/- alive: what every right program knows of a few beasts. -/
namespace Go.Proofs.YtdbbcngmnpejnaaDoor.B
open Go.Proofs.YtdbbcngmnpejnaaDoor.A
open Go.RowKit Go.Proofs.YtdbbcngmnpejnaaDoorW.PrintWords Go.Proofs.YtdbbcngmnpejnaaDoorW.PrintMore
/-- Two triples in a row that has just been made. -/
theorem two_reads (W : World) (a b : S44) : Kd.C k44 (W.alloc (.cells #[.int .i64 a.f0, .int .i64 a.f1, .int .i64 a.f2, .int .i64 b.f0, .int .i64 b.f1, .int .i64 b.f2] 44)) (some ⟨W.heap.size, 0, none⟩) 2 [a, b] := by
  refine ⟨rfl, by decide, fun _ => ⟨_, rfl, fun j p hj => ?_⟩⟩
  have hb := heap_alloc_new W (.cells #[.int .i64 a.f0, .int .i64 a.f1, .int .i64 a.f2, .int .i64 b.f0, .int .i64 b.f1, .int .i64 b.f2] 44)
  refine ⟨_, rfl, k44_mk _ p, fun i u hu => ?_⟩
  rw [add_plain, blk_cell hb]
  match j, hj, i, hu with
  | 0, hj, 0, hu => cases hj; exact hu
  | 0, hj, 1, hu => cases hj; exact hu
  | 0, hj, 2, hu => cases hj; exact hu
  | 1, hj, 0, hu => cases hj; exact hu
  | 1, hj, 1, hu => cases hj; exact hu
  | 1, hj, 2, hu => cases hj; exact hu
theorem alive_Build : buildE 4 [⟨0, 1, 2⟩, ⟨1, 2, 3⟩] = (⟨#[40, 40, 40, 48, 44, 49, 41, 44, 50, 41, 44, 51, 41]⟩, 0) := by kernel_rfl
theorem alive_Knot : knotE 3 [⟨0, 1, 2⟩, ⟨1, 2, 0⟩] = (7, 0) := by kernel_rfl
theorem sort_two {a b : BT} (h : low a.set ≤ low b.set) : sortB [a, b] = [a, b] := by
  unfold sortB
  refine List.mergeSort_of_pairwise ?_
  simp [h]
theorem alive_parse : parseE 4 [40, 40, 40, 48, 44, 49, 41, 44, 50, 41, 44, 51, 41] = some (.node [.node [.node [.leaf 0, .leaf 1], .leaf 2], .leaf 3]) := by kernel_rfl
theorem alive_text : (strB (BT.node [.node [.leaf 0, .leaf 2], .leaf 3]).text, (0 : Int)) = (⟨#[40, 40, 48, 44, 50, 41, 44, 51, 41]⟩, 0) := by kernel_rfl
theorem alive_Kept : keptE 4 [40, 40, 40, 48, 44, 49, 41, 44, 50, 41, 44, 51, 41] 13 = (⟨#[40, 40, 48, 44, 50, 41, 44, 51, 41]⟩, 0) := by
  unfold keptE
  rw [alive_parse]
  have h : BT.kept 13 (.node [.node [.node [.leaf 0, .leaf 1], .leaf 2], .leaf 3]) = some (.node [.node [.leaf 0, .leaf 2], .leaf 3]) := by
    have h0 : BT.kept 13 (.leaf 0) = some (.leaf 0) := by kernel_rfl
    have h1 : BT.kept 13 (.leaf 1) = none := by kernel_rfl
    have h2 : BT.kept 13 (.leaf 2) = some (.leaf 2) := by kernel_rfl
    have h3 : BT.kept 13 (.leaf 3) = some (.leaf 3) := by kernel_rfl
    have ha : BT.kept 13 (.node [.leaf 0, .leaf 1]) = some (.leaf 0) := by
      rw [BT.kept, BT.keptL, h0, BT.keptL, h1, BT.keptL]; rfl
    have hb : BT.kept 13 (.node [.node [.leaf 0, .leaf 1], .leaf 2]) = some (.node [.leaf 0, .leaf 2]) := by
      rw [BT.kept, BT.keptL, ha, BT.keptL, h2, BT.keptL]
      show some (BT.node (sortB _)) = _
      rw [sort_two (by decide +kernel)]
    rw [BT.kept, BT.keptL, hb, BT.keptL, h3, BT.keptL]
    show some (BT.node (sortB _)) = _
    rw [sort_two (by decide +kernel)]
  simp only []
  rw [if_pos (by decide), show (13 : Int).toNat = 13 from rfl, h]
  exact alive_text
theorem alive_Family : familyE 3 [40, 40, 48, 44, 49, 41, 44, 50, 41] 0 1 = (3, 0) := by kernel_rfl

set_option maxRecDepth 100000 in
set_option maxHeartbeats 3200000 in
theorem alive_calls (w : World) (hT : TabAt w) : Calls Tryd.prog 15 #[] w fun e w' => e = .returned (.bool true) ∧ Below w.heap.size w w' := by
  have HT := Aside0.mk hT
  have HB := Aside0.mk (Below.refl w.heap.size w)
  have H1 : Aside0 (∀ W, TabAt W → Calls Tryd.prog 17 #[.int .i64 4, .slice (some ⟨W.heap.size, 0, none⟩) 2 2] (W.alloc (.cells #[.int .i64 0, .int .i64 1, .int .i64 2, .int .i64 1, .int .i64 2, .int .i64 3] 44)) fun e w' => e = .returned (.tuple #[.string ⟨#[40, 40, 40, 48, 44, 49, 41, 44, 50, 41, 44, 51, 41]⟩, .int .i64 0]) ∧ Below W.heap.size W w') := ⟨fun W hT => by
    have := Build_calls 4 (some ⟨W.heap.size, 0, none⟩) 2 [⟨0, 1, 2⟩, ⟨1, 2, 3⟩] _ (two_reads W ⟨0, 1, 2⟩ ⟨1, 2, 3⟩) (by decide) (hT.next ((Below.refl _ _).alloc (Nat.le_refl _) _))
    rw [alive_Build] at this
    exact this.mono fun e w' ⟨h1, h2⟩ => ⟨h1, below_then ((Below.refl _ W).alloc (Nat.le_refl _) _) ((Below.refl _ W).alloc (Nat.le_refl _) _).size h2⟩⟩
  have H2 : Aside0 (∀ W, Calls Tryd.prog 19 #[.int .i64 3, .slice (some ⟨W.heap.size, 0, none⟩) 2 2] (W.alloc (.cells #[.int .i64 0, .int .i64 1, .int .i64 2, .int .i64 1, .int .i64 2, .int .i64 0] 44)) fun e w' => e = .returned (.tuple #[.int .i64 7, .int .i64 0]) ∧ Below W.heap.size W w') := ⟨fun W => by
    have := Knot_calls 3 (some ⟨W.heap.size, 0, none⟩) 2 [⟨0, 1, 2⟩, ⟨1, 2, 0⟩] _ (two_reads W ⟨0, 1, 2⟩ ⟨1, 2, 0⟩) (by decide)
    rw [alive_Knot] at this
    exact this.mono fun e w' ⟨h1, h2⟩ => ⟨h1, below_then ((Below.refl _ W).alloc (Nat.le_refl _) _) ((Below.refl _ W).alloc (Nat.le_refl _) _).size h2⟩⟩
  have H3 : Aside0 (∀ W, Calls Tryd.prog 13 #[.int .i64 5] W fun e w' => e = .returned (.tuple #[.int .i64 236, .int .i64 0]) ∧ Below W.heap.size W w') := ⟨fun W => Count_calls 5 W⟩
  have H4 : Aside0 (∀ W, TabAt W → Calls Tryd.prog 24 #[.int .i64 4, .string ⟨#[40, 40, 40, 48, 44, 49, 41, 44, 50, 41, 44, 51, 41]⟩, .int .i64 13] W fun e w' => e = .returned (.tuple #[.string ⟨#[40, 40, 48, 44, 50, 41, 44, 51, 41]⟩, .int .i64 0]) ∧ Below W.heap.size W w') := ⟨fun W hT => by
    have := Kept_calls 4 [40, 40, 40, 48, 44, 49, 41, 44, 50, 41, 44, 51, 41] 13 W hT
    rw [alive_Kept] at this
    exact this⟩
  have H5 : Aside0 (∀ W, TabAt W → Calls Tryd.prog 42 #[.int .i64 3, .string ⟨#[40, 40, 48, 44, 49, 41, 44, 50, 41]⟩, .int .i64 0, .int .i64 1] W fun e w' => e = .returned (.tuple #[.int .i64 3, .int .i64 0]) ∧ Below W.heap.size W w') := ⟨fun W hT => by
    have := Family_calls 3 [40, 40, 48, 44, 49, 41, 44, 50, 41] 0 1 W hT
    rw [alive_Family] at this
    exact this⟩
  clear hT
  go_enter Tryd.func15, Tryd.ntmps15
  go_wp2_with (first
    | (go_at_call 17; go_must (refine (H1.out _ HT.out).mono ?_; rintro e w1 ⟨rfl, hb⟩; have HB1 := Aside0.mk hb; clear hb))
    | (go_at_call 19; go_must (refine (H2.out _).mono ?_; rintro e w2 ⟨rfl, hb⟩; have HB2 := Aside0.mk (below_then HB1.out HB1.out.size hb); clear hb))
    | (go_at_call 13; go_must (refine (H3.out _).mono ?_; rintro e w3 ⟨rfl, hb⟩; have HB3 := Aside0.mk (below_then HB2.out HB2.out.size hb); clear hb))
    | (go_at_call 24; go_must (refine (H4.out _ (HT.out.next HB3.out)).mono ?_; rintro e w4 ⟨rfl, hb⟩; have HB4 := Aside0.mk (below_then HB3.out HB3.out.size hb); clear hb))
    | (go_at_call 42; go_must (refine (H5.out _ (HT.out.next HB4.out)).mono ?_; rintro e w5 ⟨rfl, hb⟩; have HB5 := Aside0.mk (below_then HB4.out HB4.out.size hb); clear hb)))
  go_ret
  exact ⟨rfl, HB5.out⟩
end Go.Proofs.YtdbbcngmnpejnaaDoor.B

/- ref.IsTree, in, Others: what they answer; what BreedBack asks, plain. -/
namespace Go.Proofs.YtdbbcngmnpejnaaDoor.B
open Go.Proofs.YtdbbcngmnpejnaaDoor.A
open Go.RowKit Go.Proofs.YtdbbcngmnpejnaaDoorW.PrintWords Go.Proofs.YtdbbcngmnpejnaaDoorW.PrintMore
theorem in_loop (l : List S44) (x : S44) (hb : l.length ≤ 9223372036854775807) : ∀ d i : Nat, i + d = l.length → drovewaylaw05_in.l0 (d + 1) l (i : Int) x.f0 x.f1 x.f2 = some (decide (x ∈ l.drop i))
  | 0, i, h => by
    rw [drovewaylaw05_in.l0, if_neg (by omega), List.drop_of_length_le (by omega)]
    rfl
  | d + 1, i, h => by
    have hi : i < l.length := by omega
    have hw : wrap64 ((i : Int) + 1) = ((i + 1 : Nat) : Int) := by unfold wrap64; omega
    have hrd : rd_T44 l (i : Int) = l[i] := by simp only [rd_T44, Int.toNat_natCast, List.getD_eq_getElem?_getD, List.getElem?_eq_getElem hi, Option.getD_some]
    rw [drovewaylaw05_in.l0, if_pos (by omega), if_pos (by omega), hrd, hw, in_loop l x hb d (i + 1) (by omega), List.drop_eq_getElem_cons hi]
    generalize l[i] = a
    by_cases e : x = a
    · subst e
      rw [if_pos (by simp)]
      congr 1
      simp
    · have e2 := fun h => e (s44_ext.mpr h)
      rw [if_neg (by
        intro h
        simp only [Bool.and_eq_true, beq_iff_eq] at h
        exact e2 ⟨by omega, by omega, by omega⟩)]
      congr 1
      rw [decide_eq_decide, List.mem_cons]
      exact ⟨fun h => .inr h, fun h => h.resolve_left e⟩
theorem in_calls (A : Option Addr) (c : Nat) (l : List S44) (x : S44) (w : World) (hr : Kd.C k44 w A l.length l) (hc : l.length ≤ c) :
    Calls Tryd.prog 36 #[.slice A l.length c, enc44 x] w fun e w' => e = .returned (.bool (decide (x ∈ l))) ∧ Below w.heap.size w w' := by
  refine drovewaylaw05_in.calls (l.length + 1) A c l x.f0 x.f1 x.f2 (decide (x ∈ l)) w hr hc ?_
  have := in_loop l x (by have := hr.2.1; omega) l.length 0 (by omega)
  rw [List.drop_zero] at this
  exact this
def encO (x : S44) : Value := .agg #[.int .i64 (othA x).f0, .int .i64 (othA x).f1, .int .i64 (othA x).f2, .int .i64 (othB x).f0, .int .i64 (othB x).f1, .int .i64 (othB x).f2]
section
attribute [local go_sem] max2_int min2_int max_two min_two
set_option maxRecDepth 100000 in
set_option maxHeartbeats 3200000 in
theorem Others_calls (x : S44) (W : World) : Calls Tryd.prog 35 #[enc44 x] W fun e w' => e = .returned (encO x) ∧ Below W.heap.size W w' := by
  obtain ⟨x0, x1, x2⟩ := x
  unfold enc44 encO othA othB
  dsimp only
  go_enter Tryd.func35, Tryd.ntmps35
  go_wp2
  all_goals
    refine bodyPost_ret ?h1 rfl ⟨rfl, ?h2⟩
    case h1 => simp [results, Tryd.results35, go_sem]
    case h2 => repeat (first | exact Below.refl _ _ | (apply below_alloc))
end
end Go.Proofs.YtdbbcngmnpejnaaDoor.B

/- BreedClosure, walked: it returns true. (Printed by gen_e12.py.) -/
namespace Go.Proofs.YtdbbcngmnpejnaaDoor.B
open Go.Proofs.YtdbbcngmnpejnaaDoor.A
open Go.RowKit Go.Proofs.YtdbbcngmnpejnaaDoorW.PrintWords Go.Proofs.YtdbbcngmnpejnaaDoorW.PrintMore
set_option linter.unusedSimpArgs false
theorem own_neq {α : Type} {d : Kd α} {e base : Nat} {ok : Nat → Prop} {w : World} {v u : Value} {xs : List α} (h : d.R e w base ok v xs) (hn : ∃ b, u.ownBlock = some b ∧ w.heap.size ≤ b) : ∀ k, v.ownBlock = some k → some k ≠ u.ownBlock := fun k hk e => by
  obtain ⟨cs, h2⟩ := Kd.R_typed h k hk
  obtain ⟨b, hb, hl⟩ := hn
  rw [hb] at e
  cases e
  have := YtdbbcngmnpejnaaDoorW.PrintWords.blk_lt h2
  omega
theorem below_undrewn {w w' : World} (h : Below w.heap.size w.drew w') : Below w.heap.size w w' := ⟨h.os, h.tape, h.output, h.size, h.block⟩
theorem pw_cell_undrew {w w' : World} {g : Nat} (hg : g < w.heap.size) (h : Below w.heap.size w.drew w') {o : Nat} {v : Value} (hc : w.cell? ⟨g, o, none⟩ = some v) : w'.cell? ⟨g, o, none⟩ = some v := (World.cell?_of_block (h.block g hg)).trans hc
theorem listE_okC {n : Int} {l : List S44} (h1 : l.length ≤ 60) (h2 : ∀ t ∈ l, okTri n t = true) : listE n l = 0 := by
  unfold listE
  rw [if_neg (by omega), if_pos (List.all_eq_true.mpr h2)]
theorem askE_okC {n : Int} {l : List S44} (h : 1 ≤ n ∧ n ≤ 8) (h1 : l.length ≤ 60) (h2 : ∀ t ∈ l, okTri n t = true) : askE n l = 0 := by
  unfold askE
  rw [if_pos h, listE_okC h1 h2]
theorem closureE_ok {m : Nat} {l : List S44} {t : BT} (h : askE m l = 0) (hb : buildF l 9 (2 ^ m - 1) = some t) : closureE m l = (clF m l, 0) := by
  unfold closureE clF
  rw [if_pos h, Int.toNat_natCast, hb]
theorem closureE_none {m : Nat} {l : List S44} (h : askE m l = 0) (hb : buildF l 9 (2 ^ m - 1) = none) : closureE m l = ([], 10) := by
  unfold closureE
  rw [if_pos h, Int.toNat_natCast, hb]
theorem buildE_is {m : Nat} {l : List S44} (h : askE m l = 0) : ∃ s, buildE m l = (s, if (buildF l 9 (2 ^ m - 1)).isSome = true then 0 else 10) := by
  unfold buildE
  rw [if_pos h, Int.toNat_natCast]
  cases buildF l 9 (2 ^ m - 1) with
  | none => exact ⟨_, rfl⟩
  | some t => exact ⟨_, rfl⟩
theorem all_pos : ∀ m : Nat, m ≤ 8 → 3 ≤ m → 0 < (allF m).length := by decide +kernel

set_option maxRecDepth 100000 in
set_option maxHeartbeats 25600000 in
theorem closure_any (n : Int) (A : Option Addr) (c : Nat) (l : List S44) (wh : Int) (hw0 : 0 ≤ wh) (hw1 : wh < 65536) (W : World) (hr : Kd.C k44 W A l.length l) (hc : l.length ≤ c) (hT : TabAt W) :
    Calls Tryd.prog 11 #[.int .i64 n, .slice A l.length c, .int .u16 wh] W fun e w' => e = .returned (.bool true) ∧ Below W.heap.size W w' := by
  have HT := Aside0.mk hT
  have HR := Aside0.mk hr
  have HC := Aside0.mk hc
  have HAL : Aside0 (∀ w, Below W.heap.size W w → Calls Tryd.prog 15 #[] w fun e w' => e = .returned (.bool true) ∧ Below w.heap.size w w') := ⟨fun w hb => alive_calls w (HT.out.next hb)⟩
  have HLI : Aside0 (∀ w, Below W.heap.size W w → Calls Tryd.prog 30 #[.int .i64 n, .slice A l.length c] w fun e w' => e = .returned (.int .i64 (listE n l)) ∧ Below w.heap.size w w') := ⟨fun w hb => List_calls n A c l w (Kd.C_below HR.out hb) hc⟩
  have HBD : Aside0 (∀ (y : List S44) w A' c', Below W.heap.size W w → y.length ≤ c' → Kd.C k44 w A' y.length y → Calls Tryd.prog 17 #[.int .i64 n, .slice A' y.length c'] w fun e w' => e = .returned (.tuple #[.string (buildE n y).1, .int .i64 (buildE n y).2]) ∧ Below w.heap.size w w') := ⟨fun y w A' c' hb hc' hC => Build_calls n A' c' y w hC hc' (HT.out.next hb)⟩
  have HCL : Aside0 (∀ (y : List S44) w A' c', Below W.heap.size W w → y.length ≤ c' → Kd.C k44 w A' y.length y → Calls Tryd.prog 38 #[.int .i64 n, .slice A' y.length c'] w (RowT (closureE n y) w)) := ⟨fun y w A' c' hb hc' hC => Closure_calls n A' c' y w hC hc' (HT.out.next hb)⟩
  have HB : Aside0 (Below W.heap.size W W) := ⟨Below.refl _ _⟩
  by_cases hmain : l.length < 60 ∧ ¬ n < 3 ∧ ¬ n > 8 ∧ listE n l = 0
  · obtain ⟨m1, m3, m4, m5⟩ := hmain
    obtain ⟨m, rfl⟩ : ∃ m : Nat, n = m := ⟨n.toNat, by omega⟩
    have hm8 : m ≤ 8 := by omega
    have hm1 : 1 ≤ m := by omega
    have hm3 : 3 ≤ m := by omega
    obtain ⟨_, hok⟩ := listE_zero m5
    have hask : askE m l = 0 := askE_okC (by omega) (by omega) hok
    have HOK := Aside0.mk hok
    rw [m5] at HLI
    have m7 : ¬ 8 < (m : Int) := by omega
    have m8 : (l.length : Int) < 60 := by omega
    have hl60 := m1
    cases hb : buildF l 9 (2 ^ m - 1) with
    | none =>
      have HCL2 : Aside0 (∀ w, Below W.heap.size W w → Calls Tryd.prog 38 #[.int .i64 m, .slice A l.length c] w (RowT ([], 10) w)) := ⟨fun w h => by have := HCL.out l w A c h HC.out (Kd.C_below HR.out h); rwa [closureE_none hask hb] at this⟩
      have HBD2 : Aside0 (∀ w, Below W.heap.size W w → Calls Tryd.prog 17 #[.int .i64 m, .slice A l.length c] w fun e w' => e = .returned (.tuple #[.string (buildE m l).1, .int .i64 10]) ∧ Below w.heap.size w w') := ⟨fun w h => by
        have := HBD.out l w A c h HC.out (Kd.C_below HR.out h)
        obtain ⟨s, hs⟩ := buildE_is hask
        rw [hb] at hs
        rw [hs] at this ⊢
        exact this⟩
      unfold RowT at HCL2
      dsimp only at HCL2
      generalize (buildE m l).1 = sb at HBD2
      clear hr hc hT m1 m5 HCL HBD hb hask hok
      go_enter Tryd.func11, Tryd.ntmps11
      go_wp2_with (first
        | (go_at_call 30; go_must (refine (HLI.out _ HB.out).mono ?_; rintro e w1 ⟨rfl, hb⟩; replace HB := Aside0.mk (below_then HB.out HB.out.size hb); clear hb))
        | (go_at_call 38; go_must (refine (HCL2.out _ HB.out).mono ?_; rintro e w1 ⟨v7, rfl, hR, hb⟩; obtain ⟨A7, c7, rfl, _, _⟩ := Kd.R_reads hR; replace HB := Aside0.mk (below_then HB.out HB.out.size hb); clear hb; clear hR))
        | (go_at_call 17; go_must (refine (HBD2.out _ HB.out).mono ?_; rintro e w1 ⟨rfl, hb⟩; replace HB := Aside0.mk (below_then HB.out HB.out.size hb); clear hb))
        | (go_at_call 15; go_must (refine (HAL.out _ HB.out).mono ?_; rintro e w1 ⟨rfl, hb⟩; replace HB := Aside0.mk (below_then HB.out HB.out.size hb); clear hb)))
      go_ret
      exact ⟨rfl, HB.out⟩
    | some t =>
      have HCL2 : Aside0 (∀ w, Below W.heap.size W w → Calls Tryd.prog 38 #[.int .i64 m, .slice A l.length c] w (RowT (clF m l, 0) w)) := ⟨fun w h => by have := HCL.out l w A c h HC.out (Kd.C_below HR.out h); rwa [closureE_ok hask hb] at this⟩
      have HBD2 : Aside0 (∀ w, Below W.heap.size W w → Calls Tryd.prog 17 #[.int .i64 m, .slice A l.length c] w fun e w' => e = .returned (.tuple #[.string (buildE m l).1, .int .i64 0]) ∧ Below w.heap.size w w') := ⟨fun w h => by
        have := HBD.out l w A c h HC.out (Kd.C_below HR.out h)
        obtain ⟨s, hs⟩ := buildE_is hask
        rw [hb] at hs
        rw [hs] at this ⊢
        exact this⟩
      have hcb : ∃ t', buildF (clF m l) 9 (2 ^ m - 1) = some t' := by
        have h := cl_build hm1 hm8 hok
        rw [hb] at h
        cases h2 : buildF (clF m l) 9 (2 ^ m - 1) with
        | none => rw [h2] at h; cases h
        | some t' => exact ⟨t', rfl⟩
      have HCC : Aside0 ((clF m l).length ≤ 60 → ∀ w A' c', Below W.heap.size W w → (clF m l).length ≤ c' → Kd.C k44 w A' (clF m l).length (clF m l) → Calls Tryd.prog 38 #[.int .i64 m, .slice A' (clF m l).length c'] w (RowT (clF m l, 0) w)) := ⟨fun h60 w A' c' hb hc' hC => by
        obtain ⟨t', ht'⟩ := hcb
        have h := HCL.out (clF m l) w A' c' hb hc' hC
        rw [closureE_ok (askE_okC (by omega) h60 cl_ok) ht', cl_cl hm1 hm8 hok] at h
        exact h⟩
      have HHAS : Aside0 (∀ x ∈ l, decide (x ∈ clF m l) = true) := ⟨fun x hx => decide_eq_true (cl_has hm1 hm8 hok hx)⟩
      have HLN : Aside0 ((clF m l).length ≤ 168) := ⟨Nat.le_trans (List.length_filter_le _ _) (all_len m hm8)⟩
      -- the triple that is asked
      obtain ⟨q, rfl⟩ : ∃ q : Nat, wh = q := ⟨wh.toNat, by omega⟩
      have hL0 := all_pos m hm8 hm3
      have HAF := Aside0.mk (fun w => rall_calls m hm8 w)
      have HXX : Aside0 (∀ x ∈ allF m, okTri (m : Int) x = true) := ⟨fun x hx => all_mem.mp hx⟩
      have hL1 := all_len m hm8
      have HINX : Aside0 (∀ x ∈ allF m, decide (x ∈ clF m l) = (!canB l (2 ^ m - 1) (othA x) && !canB l (2 ^ m - 1) (othB x))) := ⟨fun x hx => by
        rw [Bool.eq_iff_iff, decide_eq_true_iff, cl_mem, open_false, Bool.and_eq_true, Bool.not_eq_true', Bool.not_eq_true']
        exact ⟨fun h => h.2, fun h => ⟨all_mem.mp hx, h⟩⟩⟩
      have HBY : Aside0 (∀ y, okTri (m : Int) y = true → ∃ s, buildE m (l ++ [y]) = (s, if canB l (2 ^ m - 1) y = true then 0 else 10)) := ⟨fun y hy => buildE_is (askE_okC (by omega) (by rw [List.length_append, List.length_singleton]; omega) (snoc_ok hok hy))⟩
      generalize clF m l = cl at HCL2 HCC HHAS HLN HINX
      generalize allF m = al at HAF HXX HINX hL0 hL1
      generalize canB l (2 ^ m - 1) = can at HINX HBY
      unfold RowT at HCL2 HCC
      dsimp only at HCL2 HCC
      generalize (buildE m l).1 = sb at HBD2
      have HQ := Aside0.mk (And.intro hw0 hw1)
      have HL01 := Aside0.mk (And.intro hL0 hL1)
      clear hr hc hT m1 m5 HCL hb hask hok hcb hw0 hw1 hL0 hL1 hm1 hm3
      go_enter Tryd.func11, Tryd.ntmps11
      go_upto_region 10 with (first
        | (go_at_call 30; go_must (refine (HLI.out _ HB.out).mono ?_; rintro e w1 ⟨rfl, hb⟩; replace HB := Aside0.mk (below_then HB.out HB.out.size hb); clear hb))
        | (go_at_call 38; go_must (refine (HCL2.out _ HB.out).mono ?_; rintro e w7 ⟨v7, rfl, hR, hb⟩; obtain ⟨A7, c7, rfl, hc7, hC7⟩ := Kd.R_reads hR; have HC7 := Aside0.mk hC7; have HCC7 := Aside0.mk hc7; replace HB := Aside0.mk (below_then HB.out HB.out.size hb); clear hb; clear hR hC7 hc7))
        | (go_at_call 17; go_must (refine (HBD2.out _ HB.out).mono ?_; rintro e w8 ⟨rfl, hb⟩; replace HC7 := Aside0.mk (Kd.C_below HC7.out hb); replace HB := Aside0.mk (below_then HB.out HB.out.size hb); clear hb)))
      have HIN : Aside0 (∀ y w, Below w8.heap.size w8 w → Calls Tryd.prog 36 #[.slice A7 cl.length c7, enc44 y] w fun e w' => e = .returned (.bool (decide (y ∈ cl))) ∧ Below w.heap.size w w') := ⟨fun y w hb => in_calls A7 c7 cl y w (Kd.C_below HC7.out hb) HCC7.out⟩
      go_loopg [11] l.length (fun gg v11 wr => ∃ k : Nat, k ≤ l.length ∧ l.length - k ≤ gg ∧ v11 = .int .i64 (k : Int) ∧ Aside0 (Below w8.heap.size w8 wr))
      case atStart => exact ⟨0, Nat.zero_le _, by omega, rfl, ⟨Below.refl _ _⟩⟩
      case round =>
        obtain ⟨k, hk, hgg, rfl, HK⟩ := hrel
        by_cases hkm : k < l.length
        · have hkz : (k : Int) < (l.length : Int) := by omega
          obtain ⟨ad, had, hx0, hx1, hx2⟩ := at_T44 (Kd.C_below HR.out (below_then HB.out HB.out.size HK.out)) (k : Int) (by omega) (by omega)
          subst had
          rw [Int.toNat_natCast] at hx0 hx1 hx2
          have hrd : rd_T44 l (k : Int) = l.getD k z44 := by simp only [rd_T44, Int.toNat_natCast]
          have hmem : l.getD k z44 ∈ l := getD_mem z44 hkm
          rw [hrd] at hx0 hx1 hx2
          generalize l.getD k z44 = x at hx0 hx1 hx2 hmem
          have HI := Aside0.mk (fun w hb => HIN.out x w hb)
          rw [HHAS.out x hmem] at HI
          obtain ⟨x0, x1, x2⟩ := x
          unfold enc44 at HI
          dsimp only at HI hx0 hx1 hx2
          clear hrd hmem
          go_wp2_with (go_at_call 36; go_must (refine (HI.out _ HK.out).mono ?_; rintro e w1 ⟨rfl, hb⟩; replace HK := Aside0.mk (below_then HK.out HK.out.size hb); clear hb))
          go_roundg (l.length - (k + 1))
          case measure => omega
          case rel => exact ⟨k + 1, by omega, by omega, by go_num, HK⟩
        · have hkz : ¬ (k : Int) < (l.length : Int) := by omega
          have HB8 := HB
          replace HB := Aside0.mk (below_then HB.out HB.out.size HK.out)
          have HLC : Aside0 (cl.length = cl.length) := ⟨rfl⟩
          have hlc : cl.length ≤ 168 := HLN.out
          go_upto_if 77 with fail
          go_cut [] (fun wc => Aside0 (Below w8.heap.size w8 wc))
          case first =>
            by_cases h60 : cl.length ≤ 60
            · have h60z : (cl.length : Int) ≤ 60 := by omega
              have HCD := Aside0.mk (HCC.out h60)
              go_wp2_with (first
                | (go_at_call 38; go_must (refine (HCD.out _ A7 c7 HB.out HCC7.out (Kd.C_below HC7.out HK.out)).mono ?_; rintro e w1 ⟨v12, rfl, hR, hb⟩; obtain ⟨A12, c12, rfl, hc12, hC12⟩ := Kd.R_reads hR; have HC12 := Aside0.mk hC12; have HCC12 := Aside0.mk hc12; replace HK := Aside0.mk (below_then HK.out HK.out.size hb); replace HB := Aside0.mk (below_then HB.out HB.out.size hb); clear hb; clear hR hC12 hc12))
                | (go_at_call 23; go_must (refine (same_calls A12 c12 cl A7 c7 cl _ HC12.out HCC12.out (Kd.C_below HC7.out HK.out) HCC7.out).mono ?_; rintro e w1 ⟨rfl, hb⟩; rw [decide_eq_true (show cl = cl from rfl)]; replace HK := Aside0.mk (below_then HK.out HK.out.size hb); replace HB := Aside0.mk (below_then HB.out HB.out.size hb); clear hb)))
              go_meet
              case rel => exact HK
            · have h60z : ¬ (cl.length : Int) ≤ 60 := by omega
              go_wp2
              go_meet
              case rel => exact HK
          case rest =>
            have HW8 : Aside0 (Below W.heap.size W w8) := HB8
            replace HK := hcut
            replace HB := Aside0.mk (below_then HW8.out HW8.out.size HK.out)
            clear hcut
            go_upto_region 19 with (go_at_call 39; go_must (refine (HAF.out _).mono ?_; rintro e w9 ⟨v14, rfl, hR, hb⟩; obtain ⟨A14, c14, rfl, _, hC14⟩ := Kd.R_reads hR; have HC14 := Aside0.mk hC14; replace HK := Aside0.mk (below_then HK.out HK.out.size hb); replace HB := Aside0.mk (below_then HB.out HB.out.size hb); clear hb; clear hR hC14))
            obtain ⟨L, hL⟩ : ∃ L, al.length = L := ⟨_, rfl⟩
            have HLL := Aside0.mk hL
            obtain ⟨hL0, hL1⟩ := HL01.out
            obtain ⟨hw0, hw1⟩ := HQ.out
            rw [hL] at HC14 hL0 hL1 ⊢
            clear hL
            have htm : Int.tmod (q : Int) (L : Int) = ((q % L : Nat) : Int) := (Int.ofNat_tmod q L).symm
            have hLz : ((L : Int) == 0) = false := by rw [beq_eq_false_iff_ne]; omega
            have hqL : q % L < L := Nat.mod_lt _ hL0
            have hqz : ((q % L : Nat) : Int) < (L : Int) := by omega
            obtain ⟨ad, had, hx0, hx1, hx2⟩ := at_T44 HC14.out ((q % L : Nat) : Int) (by omega) (by omega)
            subst had
            rw [Int.toNat_natCast] at hx0 hx1 hx2
            have hrd : rd_T44 al ((q % L : Nat) : Int) = al.getD (q % L) z44 := by simp only [rd_T44, Int.toNat_natCast]
            have hmem : al.getD (q % L) z44 ∈ al := getD_mem z44 (by rw [HLL.out]; exact hqL)
            rw [hrd] at hx0 hx1 hx2
            generalize al.getD (q % L) z44 = x at hx0 hx1 hx2 hmem
            generalize hqq : q % L = qq at htm hqL hqz hx0 hx1 hx2
            have HQQ := Aside0.mk hqq
            clear hqq hrd
            have hxo := HXX.out x hmem
            have hiv := HINX.out x hmem
            obtain ⟨sA, hsA⟩ := HBY.out (othA x) (othA_ok hxo)
            obtain ⟨sB, hsB⟩ := HBY.out (othB x) (othB_ok hxo)
            have HI := Aside0.mk (fun w hb => HIN.out x w hb)
            rw [hiv] at HI
            have HO := Aside0.mk (fun w => Others_calls x w)
            unfold encO at HO
            generalize can (othA x) = kA at hsA HI
            generalize can (othB x) = kB at hsB HI
            have HGA0 : Aside0 (∀ w A' c', Below W.heap.size W w → (l ++ [othA x]).length ≤ c' → Kd.C k44 w A' (l ++ [othA x]).length (l ++ [othA x]) → Calls Tryd.prog 17 #[.int .i64 m, .slice A' (l ++ [othA x]).length c'] w fun e w' => e = .returned (.tuple #[.string sA, .int .i64 (if kA = true then 0 else 10)]) ∧ Below w.heap.size w w') := ⟨fun w A' c' hb hc' hC => by have := HBD.out _ w A' c' hb hc' hC; rwa [hsA] at this⟩
            have HGB0 : Aside0 (∀ w A' c', Below W.heap.size W w → (l ++ [othB x]).length ≤ c' → Kd.C k44 w A' (l ++ [othB x]).length (l ++ [othB x]) → Calls Tryd.prog 17 #[.int .i64 m, .slice A' (l ++ [othB x]).length c'] w fun e w' => e = .returned (.tuple #[.string sB, .int .i64 (if kB = true then 0 else 10)]) ∧ Below w.heap.size w w') := ⟨fun w A' c' hb hc' hC => by have := HBD.out _ w A' c' hb hc' hC; rwa [hsB] at this⟩
            clear hsA hsB hiv hxo hmem
            generalize othA x = xa at HO HGA0
            generalize othB x = xb at HO HGB0
            obtain ⟨ya, hya⟩ : ∃ y, l ++ [xa] = y := ⟨_, rfl⟩
            obtain ⟨yb, hyb⟩ : ∃ y, l ++ [xb] = y := ⟨_, rfl⟩
            rw [hya] at HGA0
            rw [hyb] at HGB0
            have HYA := Aside0.mk hya
            have HYB := Aside0.mk hyb
            clear hya hyb
            obtain ⟨x0, x1, x2⟩ := x
            obtain ⟨a0, a1, a2⟩ := xa
            obtain ⟨b0, b1, b2⟩ := xb
            unfold enc44 at HI HO
            dsimp only at HI HO hx0 hx1 hx2
            obtain ⟨gA, hgA⟩ : ∃ g : Int, (if kA = true then 0 else 10) = g := ⟨_, rfl⟩
            obtain ⟨gB, hgB⟩ : ∃ g : Int, (if kB = true then 0 else 10) = g := ⟨_, rfl⟩
            rw [hgA] at HGA0
            rw [hgB] at HGB0
            have HGA1 := Aside0.mk hgA
            have HGB1 := Aside0.mk hgB
            clear hgA hgB hk hkm hkz hgg HHAS HINX HXX HBY HCC HBD HCL2 HBD2 HLI
            go_upto_region 20 with fail
            clear hw0 hw1 hL0 hL1 htm hLz hqL hqz
            have HN15 : Aside0 ((w9.alloc (.cells #[.int .i64 x0, .int .i64 x1, .int .i64 x2] 44)).heap[w9.heap.size]? = some (.cells #[.int .i64 x0, .int .i64 x1, .int .i64 x2] 44 (0, 0))) := ⟨heap_alloc_new w9 _⟩
            have hb : Below w9.heap.size w9 (w9.alloc (.cells #[.int .i64 x0, .int .i64 x1, .int .i64 x2] 44)) := (Below.refl _ _).alloc (Nat.le_refl _) _
            replace HK := Aside0.mk (below_then HK.out HK.out.size hb); replace HB := Aside0.mk (below_then HB.out HB.out.size hb); clear hb
            generalize w9.alloc (.cells #[.int .i64 x0, .int .i64 x1, .int .i64 x2] 44) = wt at HN15 HB HK ⊢
            generalize w9.heap.size = tb at HN15 ⊢
            clear hx0 hx1 hx2
            obtain ⟨e0, e1, e2, _⟩ := cells3 HN15.out
            go_upto_region 21 with (go_at_call 35; go_must (refine (HO.out _).mono ?_; rintro e wo ⟨rfl, hb⟩; replace HN15 := Aside0.mk ((hb.block tb (YtdbbcngmnpejnaaDoorW.PrintWords.blk_lt HN15.out)).trans HN15.out); replace HK := Aside0.mk (below_then HK.out HK.out.size hb); replace HB := Aside0.mk (below_then HB.out HB.out.size hb); clear hb; clear e0 e1 e2))
            have HN16 : Aside0 ((wo.alloc (.cells #[.int .i64 a0, .int .i64 a1, .int .i64 a2, .int .i64 b0, .int .i64 b1, .int .i64 b2] 52)).heap[wo.heap.size]? = some (.cells #[.int .i64 a0, .int .i64 a1, .int .i64 a2, .int .i64 b0, .int .i64 b1, .int .i64 b2] 52 (0, 0))) := ⟨heap_alloc_new wo _⟩
            have hb : Below wo.heap.size wo (wo.alloc (.cells #[.int .i64 a0, .int .i64 a1, .int .i64 a2, .int .i64 b0, .int .i64 b1, .int .i64 b2] 52)) := (Below.refl _ _).alloc (Nat.le_refl _) _
            replace HN15 := Aside0.mk ((hb.block tb (YtdbbcngmnpejnaaDoorW.PrintWords.blk_lt HN15.out)).trans HN15.out)
            replace HK := Aside0.mk (below_then HK.out HK.out.size hb); replace HB := Aside0.mk (below_then HB.out HB.out.size hb); clear hb
            generalize wo.alloc (.cells #[.int .i64 a0, .int .i64 a1, .int .i64 a2, .int .i64 b0, .int .i64 b1, .int .i64 b2] 52) = wq at HN15 HN16 HB HK ⊢
            generalize wo.heap.size = ob at HN16 ⊢
            go_cut [18] (fun v18 wc => v18 = .int .i64 gA ∧ Aside0 (Below wq.heap.size wq wc))
            case first =>
              have HOL : Aside0 (ob < wq.heap.size) := ⟨YtdbbcngmnpejnaaDoorW.PrintWords.blk_lt HN16.out⟩
              have d0 : wq.cell? ⟨ob, 0, none⟩ = some (.int .i64 a0) := blk_cell HN16.out 0
              have d1 : wq.cell? ⟨ob, 1, none⟩ = some (.int .i64 a1) := blk_cell HN16.out 1
              have d2 : wq.cell? ⟨ob, 2, none⟩ = some (.int .i64 a2) := blk_cell HN16.out 2
              have d3 : wq.cell? ⟨ob, 3, none⟩ = some (.int .i64 b0) := blk_cell HN16.out 3
              have d4 : wq.cell? ⟨ob, 4, none⟩ = some (.int .i64 b1) := blk_cell HN16.out 4
              have d5 : wq.cell? ⟨ob, 5, none⟩ = some (.int .i64 b2) := blk_cell HN16.out 5
              refine wp_region_noPanic ?_
              refine wp_region_held_drew (S := fun w' => w'.cell? ⟨ob, 0, none⟩ = some (.int .i64 a0) ∧ w'.cell? ⟨ob, 1, none⟩ = some (.int .i64 a1) ∧ w'.cell? ⟨ob, 2, none⟩ = some (.int .i64 a2)) (by kernel_rfl) (⟨d0, d1, d2⟩) (fun hHeld => ?_)
              refine H_on 0 105 ?vr0 rfl rfl (by kernel_rfl) (by kernel_rfl) (by kernel_rfl) (by rfl) ?hr0 hHeld ?rr0
              case hr0 => (intro w hSw; obtain ⟨s0, s1, s2⟩ := hSw; go_simp <;> with_reducible rfl)
              simp only [Act.put, List.setIfInBounds_toArray, List.set_cons_zero, List.set_cons_succ]
              refine H_on 2 107 ?vr2 rfl rfl (by kernel_rfl) (by kernel_rfl) (by kernel_rfl) (by rfl) ?hr2 hHeld ?rr2
              case hr2 => (intro w hSw; obtain ⟨s0, s1, s2⟩ := hSw; go_simp <;> with_reducible rfl)
              simp only [Act.put, List.setIfInBounds_toArray, List.set_cons_zero, List.set_cons_succ]
              refine H_on 4 109 ?vr4 rfl rfl (by kernel_rfl) (by kernel_rfl) (by kernel_rfl) (by rfl) ?hr4 hHeld ?rr4
              case hr4 => (intro w hSw; obtain ⟨s0, s1, s2⟩ := hSw; go_simp <;> with_reducible rfl)
              simp only [Act.put, List.setIfInBounds_toArray, List.set_cons_zero, List.set_cons_succ]
              refine H_on 5 110 ?vr5 rfl rfl (by kernel_rfl) (by kernel_rfl) (by kernel_rfl) (by rfl) ?hr5 hHeld ?rr5
              case hr5 => (intro w hSw; obtain ⟨s0, s1, s2⟩ := hSw; go_simp <;> with_reducible rfl)
              simp only [Act.put, List.setIfInBounds_toArray, List.set_cons_zero, List.set_cons_succ]
              refine wpAnyH_ready (rs := [1, 6]) (by kernel_rfl) (by simp) ?_
              refine AllReadyH.cons rfl (fun K hK => ?_) (AllReadyH.cons rfl (fun K hK => ?_) AllReadyH.nil)
              refine Kd.R_lit_step k44 (w0 := wq.drew) wq.heap.size 44 (by kernel_rfl) (N := 106) rfl (xs := ([] : List S44)) (inner := []) (ok := fun _ => True) (okp := fun _ => True) ?hR1 (Reps.none _ _) (fun _ hk => hk) trivial (Below.refl wq.heap.size wq.drew) (Below.refl wq.heap.size wq.drew).size (by simp) ?_
              case hR1 => first | (go_simp; done) | (go_simp; rfl)
              intro v1 wa ho hb hg hn
              have HO1 := Aside0.mk ho
              have HBA := Aside0.mk hb
              clear ho hb hg hn
              refine hK.out _ _ (⟨pw_cell_undrew HOL.out HBA.out d0, pw_cell_undrew HOL.out HBA.out d1, pw_cell_undrew HOL.out HBA.out d2⟩) (fun hHeld => ?_)
              clear hK K
              try simp only [Act.put, List.setIfInBounds_toArray, List.set_cons_zero, List.set_cons_succ]
              refine wpAnyH_ready (rs := [3, 6]) (by kernel_rfl) (by simp) ?_
              refine AllReadyH.cons rfl (fun K hK => ?_) (AllReadyH.cons rfl (fun K hK => ?_) AllReadyH.nil)
              refine Kd.R_append_rows_step k44 (Rr := k44.K wa) (w0 := wq.drew) wq.heap.size (by kernel_rfl) (.tmp 106) (.tmp 107) 27 44 _ _ rfl Tryd.underlying27 info44 rfl (by decide) (by decide) v1 [] l A l.length c (fun _ => True) (fun _ => False) rfl rfl HO1.out (Kd.C_below HR.out (below_then HB.out HB.out.size (below_undrewn (HBA.out)))) (fun _ _ h => h) (fun _ hk => hk.elim) (fun _ _ => trivial) (HBA.out) (HBA.out).size (by simp <;> omega) ?_
              intro v2 wb ho hb hg _
              rw [List.nil_append] at ho
              have HO2 := Aside0.mk ho
              have HBA := Aside0.mk hb
              clear ho hb hg HO1
              refine hK.out _ _ (⟨pw_cell_undrew HOL.out HBA.out d0, pw_cell_undrew HOL.out HBA.out d1, pw_cell_undrew HOL.out HBA.out d2⟩) (fun hHeld => ?_)
              clear hK K
              try simp only [Act.put, List.setIfInBounds_toArray, List.set_cons_zero, List.set_cons_succ]
              refine wpAnyH_ready (rs := [6]) (by kernel_rfl) (by simp) ?_
              refine AllReadyH.cons rfl (fun K hK => ?_) AllReadyH.nil
              refine Kd.R_lit_step k44 (w0 := wq.drew) wq.heap.size 44 (by kernel_rfl) (N := 111) rfl (xs := [(⟨a0, a1, a2⟩ : S44)]) (inner := [.int .i64 a0, .int .i64 a1, .int .i64 a2]) (ok := fun _ => True) (okp := fun _ => True) ?hR2 (repsN44 (⟨a0, a1, a2⟩ : S44)) (fun _ hk => hk) trivial (HBA.out) (HBA.out).size (by simp) ?_
              case hR2 => first | (go_simp; done) | (go_simp; rfl)
              intro v4 wc ho hb hg hn
              have HO4 := Aside0.mk ho
              replace HO2 := Aside0.mk (Kd.R_grown HO2.out hg (fun _ _ h => by cases h))
              have HBA := Aside0.mk hb
              clear ho hb hg hn
              refine hK.out _ _ (⟨pw_cell_undrew HOL.out HBA.out d0, pw_cell_undrew HOL.out HBA.out d1, pw_cell_undrew HOL.out HBA.out d2⟩) (fun hHeld => ?_)
              clear hK K
              try simp only [Act.put, List.setIfInBounds_toArray, List.set_cons_zero, List.set_cons_succ]
              refine wpAnyH_ready (rs := [7]) (by kernel_rfl) (by simp) ?_
              refine AllReadyH.cons rfl (fun K hK => ?_) AllReadyH.nil
              obtain ⟨A4, c4, hv4, hc4, hC4⟩ := Kd.R_reads HO4.out
              subst hv4
              refine Kd.R_append_rows_step k44 (Rr := k44.K wc) (w0 := wq.drew) wq.heap.size (by kernel_rfl) (.tmp 108) (.tmp 111) 27 44 _ _ rfl Tryd.underlying27 info44 rfl (by decide) (by decide) v2 l [(⟨a0, a1, a2⟩ : S44)] A4 1 c4 (fun _ => True) (fun _ => False) rfl rfl HO2.out hC4 (fun _ _ h => h) (fun _ hk => hk.elim) (fun _ _ => trivial) HBA.out HBA.out.size (by omega) ?_
              intro v5 wy ho5 hb5 _ _
              rw [HYA.out] at ho5
              obtain ⟨Ay, cy, hvy, hcy, hCy⟩ := Kd.R_reads ho5
              subst hvy
              have HCy := Aside0.mk hCy
              have HCCy := Aside0.mk hcy
              have HBY := Aside0.mk hb5
              clear ho5 hb5 hCy hcy hC4 hc4 HO2 HO4 HBA
              refine hK.out _ _ (⟨pw_cell_undrew HOL.out HBY.out d0, pw_cell_undrew HOL.out HBY.out d1, pw_cell_undrew HOL.out HBY.out d2⟩) (fun hHeld => ?_)
              clear hK K
              try simp only [Act.put, List.setIfInBounds_toArray, List.set_cons_zero, List.set_cons_succ]
              refine wpAnyH_ready (rs := [8]) (by kernel_rfl) (by simp) ?_
              refine AllReadyH.cons rfl (fun K hK => ?_) AllReadyH.nil
              focus go_simp
              refine (HGA0.out _ Ay cy (below_then HB.out HB.out.size (below_undrewn HBY.out)) HCCy.out HCy.out).mono ?_
              rintro e wu ⟨rfl, hb⟩
              replace HBY : Aside0 (Below wq.heap.size wq.drew wu) := ⟨below_then HBY.out HBY.out.size hb⟩
              clear hb HCy HCCy
              focus go_wp2_with fail
              refine hK.out _ _ (⟨pw_cell_undrew HOL.out HBY.out d0, pw_cell_undrew HOL.out HBY.out d1, pw_cell_undrew HOL.out HBY.out d2⟩) (fun hHeld => ?_)
              clear hK K
              try simp only [Act.put, List.setIfInBounds_toArray, List.set_cons_zero, List.set_cons_succ]
              refine H_on 9 104 ?vZra9 rfl rfl (by kernel_rfl) (by kernel_rfl) (by kernel_rfl) (by rfl) ?hZra9 hHeld ?rZra9
              case hZra9 => (intro w hSw; obtain ⟨s0, s1, s2⟩ := hSw; go_simp <;> with_reducible rfl)
              simp only [Act.put, List.setIfInBounds_toArray, List.set_cons_zero, List.set_cons_succ]
              refine H_on 10 114 ?vZra10 rfl rfl (by kernel_rfl) (by kernel_rfl) (by kernel_rfl) (by rfl) ?hZra10 hHeld ?rZra10
              case hZra10 => (intro w hSw; obtain ⟨s0, s1, s2⟩ := hSw; go_simp <;> with_reducible rfl)
              simp only [Act.put, List.setIfInBounds_toArray, List.set_cons_zero, List.set_cons_succ]
              refine H_on 11 115 ?vZra11 rfl rfl (by kernel_rfl) (by kernel_rfl) (by kernel_rfl) (by rfl) ?hZra11 hHeld ?rZra11
              case hZra11 => (intro w hSw; obtain ⟨s0, s1, s2⟩ := hSw; go_simp <;> with_reducible rfl)
              simp only [Act.put, List.setIfInBounds_toArray, List.set_cons_zero, List.set_cons_succ]
              refine H_on 12 17 ?vZra12 rfl rfl (by kernel_rfl) (by kernel_rfl) (by kernel_rfl) (by rfl) ?hZra12 hHeld ?rZra12
              case hZra12 => (intro w hSw; obtain ⟨s0, s1, s2⟩ := hSw; go_simp <;> with_reducible rfl)
              simp only [Act.put, List.setIfInBounds_toArray, List.set_cons_zero, List.set_cons_succ]
              refine H_on 13 18 ?vZra13 rfl rfl (by kernel_rfl) (by kernel_rfl) (by kernel_rfl) (by rfl) ?hZra13 hHeld ?rZra13
              case hZra13 => (intro w hSw; obtain ⟨s0, s1, s2⟩ := hSw; go_simp <;> with_reducible rfl)
              simp only [Act.put, List.setIfInBounds_toArray, List.set_cons_zero, List.set_cons_succ]
              refine wpAnyH_done (by kernel_rfl) ?_ _
              refine NoPanic.normal ?_
              clear hHeld
              focus (go_wp2; go_meet; (case rel => exact ⟨rfl, ⟨below_undrewn HBY.out⟩⟩))
              refine Kd.R_lit_step k44 (w0 := wq.drew) wq.heap.size 44 (by kernel_rfl) (N := 111) rfl (xs := [(⟨a0, a1, a2⟩ : S44)]) (inner := [.int .i64 a0, .int .i64 a1, .int .i64 a2]) (ok := fun _ => True) (okp := fun _ => True) ?hR3 (repsN44 (⟨a0, a1, a2⟩ : S44)) (fun _ hk => hk) trivial (HBA.out) (HBA.out).size (by simp) ?_
              case hR3 => first | (go_simp; done) | (go_simp; rfl)
              intro v4 wb ho hb hg hn
              have HO4 := Aside0.mk ho
              have HNE : Aside0 (∀ k, v1.ownBlock = some k → some k ≠ v4.ownBlock) := ⟨own_neq HO1.out hn⟩
              replace HO1 := Aside0.mk (Kd.R_grown HO1.out hg (fun _ _ h => by cases h))
              have HBA := Aside0.mk hb
              clear ho hb hg hn
              refine hK.out _ _ (⟨pw_cell_undrew HOL.out HBA.out d0, pw_cell_undrew HOL.out HBA.out d1, pw_cell_undrew HOL.out HBA.out d2⟩) (fun hHeld => ?_)
              clear hK K
              try simp only [Act.put, List.setIfInBounds_toArray, List.set_cons_zero, List.set_cons_succ]
              refine wpAnyH_ready (rs := [3]) (by kernel_rfl) (by simp) ?_
              refine AllReadyH.cons rfl (fun K hK => ?_) AllReadyH.nil
              refine Kd.R_append_rows_step k44 (Rr := k44.K wb) (w0 := wq.drew) wq.heap.size (by kernel_rfl) (.tmp 106) (.tmp 107) 27 44 _ _ rfl Tryd.underlying27 info44 rfl (by decide) (by decide) v1 [] l A l.length c (fun _ => True) (fun _ => False) rfl rfl HO1.out (Kd.C_below HR.out (below_then HB.out HB.out.size (below_undrewn (HBA.out)))) (fun _ _ h => h) (fun _ hk => hk.elim) (fun _ _ => trivial) (HBA.out) (HBA.out).size (by simp <;> omega) ?_
              intro v2 wc ho hb hg _
              rw [List.nil_append] at ho
              have HO2 := Aside0.mk ho
              replace HO4 := Aside0.mk (Kd.R_grown2 HO4.out rfl hg HNE.out)
              have HBA := Aside0.mk hb
              clear ho hb hg HO1
              refine hK.out _ _ (⟨pw_cell_undrew HOL.out HBA.out d0, pw_cell_undrew HOL.out HBA.out d1, pw_cell_undrew HOL.out HBA.out d2⟩) (fun hHeld => ?_)
              clear hK K
              try simp only [Act.put, List.setIfInBounds_toArray, List.set_cons_zero, List.set_cons_succ]
              refine wpAnyH_ready (rs := [7]) (by kernel_rfl) (by simp) ?_
              refine AllReadyH.cons rfl (fun K hK => ?_) AllReadyH.nil
              obtain ⟨A4, c4, hv4, hc4, hC4⟩ := Kd.R_reads HO4.out
              subst hv4
              refine Kd.R_append_rows_step k44 (Rr := k44.K wc) (w0 := wq.drew) wq.heap.size (by kernel_rfl) (.tmp 108) (.tmp 111) 27 44 _ _ rfl Tryd.underlying27 info44 rfl (by decide) (by decide) v2 l [(⟨a0, a1, a2⟩ : S44)] A4 1 c4 (fun _ => True) (fun _ => False) rfl rfl HO2.out hC4 (fun _ _ h => h) (fun _ hk => hk.elim) (fun _ _ => trivial) HBA.out HBA.out.size (by omega) ?_
              intro v5 wy ho5 hb5 _ _
              rw [HYA.out] at ho5
              obtain ⟨Ay, cy, hvy, hcy, hCy⟩ := Kd.R_reads ho5
              subst hvy
              have HCy := Aside0.mk hCy
              have HCCy := Aside0.mk hcy
              have HBY := Aside0.mk hb5
              clear ho5 hb5 hCy hcy hC4 hc4 HO2 HO4 HBA
              refine hK.out _ _ (⟨pw_cell_undrew HOL.out HBY.out d0, pw_cell_undrew HOL.out HBY.out d1, pw_cell_undrew HOL.out HBY.out d2⟩) (fun hHeld => ?_)
              clear hK K
              try simp only [Act.put, List.setIfInBounds_toArray, List.set_cons_zero, List.set_cons_succ]
              refine wpAnyH_ready (rs := [8]) (by kernel_rfl) (by simp) ?_
              refine AllReadyH.cons rfl (fun K hK => ?_) AllReadyH.nil
              focus go_simp
              refine (HGA0.out _ Ay cy (below_then HB.out HB.out.size (below_undrewn HBY.out)) HCCy.out HCy.out).mono ?_
              rintro e wu ⟨rfl, hb⟩
              replace HBY : Aside0 (Below wq.heap.size wq.drew wu) := ⟨below_then HBY.out HBY.out.size hb⟩
              clear hb HCy HCCy
              focus go_wp2_with fail
              refine hK.out _ _ (⟨pw_cell_undrew HOL.out HBY.out d0, pw_cell_undrew HOL.out HBY.out d1, pw_cell_undrew HOL.out HBY.out d2⟩) (fun hHeld => ?_)
              clear hK K
              try simp only [Act.put, List.setIfInBounds_toArray, List.set_cons_zero, List.set_cons_succ]
              refine H_on 9 104 ?vZrb9 rfl rfl (by kernel_rfl) (by kernel_rfl) (by kernel_rfl) (by rfl) ?hZrb9 hHeld ?rZrb9
              case hZrb9 => (intro w hSw; obtain ⟨s0, s1, s2⟩ := hSw; go_simp <;> with_reducible rfl)
              simp only [Act.put, List.setIfInBounds_toArray, List.set_cons_zero, List.set_cons_succ]
              refine H_on 10 114 ?vZrb10 rfl rfl (by kernel_rfl) (by kernel_rfl) (by kernel_rfl) (by rfl) ?hZrb10 hHeld ?rZrb10
              case hZrb10 => (intro w hSw; obtain ⟨s0, s1, s2⟩ := hSw; go_simp <;> with_reducible rfl)
              simp only [Act.put, List.setIfInBounds_toArray, List.set_cons_zero, List.set_cons_succ]
              refine H_on 11 115 ?vZrb11 rfl rfl (by kernel_rfl) (by kernel_rfl) (by kernel_rfl) (by rfl) ?hZrb11 hHeld ?rZrb11
              case hZrb11 => (intro w hSw; obtain ⟨s0, s1, s2⟩ := hSw; go_simp <;> with_reducible rfl)
              simp only [Act.put, List.setIfInBounds_toArray, List.set_cons_zero, List.set_cons_succ]
              refine H_on 12 17 ?vZrb12 rfl rfl (by kernel_rfl) (by kernel_rfl) (by kernel_rfl) (by rfl) ?hZrb12 hHeld ?rZrb12
              case hZrb12 => (intro w hSw; obtain ⟨s0, s1, s2⟩ := hSw; go_simp <;> with_reducible rfl)
              simp only [Act.put, List.setIfInBounds_toArray, List.set_cons_zero, List.set_cons_succ]
              refine H_on 13 18 ?vZrb13 rfl rfl (by kernel_rfl) (by kernel_rfl) (by kernel_rfl) (by rfl) ?hZrb13 hHeld ?rZrb13
              case hZrb13 => (intro w hSw; obtain ⟨s0, s1, s2⟩ := hSw; go_simp <;> with_reducible rfl)
              simp only [Act.put, List.setIfInBounds_toArray, List.set_cons_zero, List.set_cons_succ]
              refine wpAnyH_done (by kernel_rfl) ?_ _
              refine NoPanic.normal ?_
              clear hHeld
              focus (go_wp2; go_meet; (case rel => exact ⟨rfl, ⟨below_undrewn HBY.out⟩⟩))
              refine Kd.R_lit_step k44 (w0 := wq.drew) wq.heap.size 44 (by kernel_rfl) (N := 111) rfl (xs := [(⟨a0, a1, a2⟩ : S44)]) (inner := [.int .i64 a0, .int .i64 a1, .int .i64 a2]) (ok := fun _ => True) (okp := fun _ => True) ?hR4 (repsN44 (⟨a0, a1, a2⟩ : S44)) (fun _ hk => hk) trivial (Below.refl wq.heap.size wq.drew) (Below.refl wq.heap.size wq.drew).size (by simp) ?_
              case hR4 => first | (go_simp; done) | (go_simp; rfl)
              intro v4 wa ho hb hg hn
              have HO4 := Aside0.mk ho
              have HBA := Aside0.mk hb
              clear ho hb hg hn
              refine hK.out _ _ (⟨pw_cell_undrew HOL.out HBA.out d0, pw_cell_undrew HOL.out HBA.out d1, pw_cell_undrew HOL.out HBA.out d2⟩) (fun hHeld => ?_)
              clear hK K
              try simp only [Act.put, List.setIfInBounds_toArray, List.set_cons_zero, List.set_cons_succ]
              refine wpAnyH_ready (rs := [1]) (by kernel_rfl) (by simp) ?_
              refine AllReadyH.cons rfl (fun K hK => ?_) AllReadyH.nil
              refine Kd.R_lit_step k44 (w0 := wq.drew) wq.heap.size 44 (by kernel_rfl) (N := 106) rfl (xs := ([] : List S44)) (inner := []) (ok := fun _ => True) (okp := fun _ => True) ?hR5 (Reps.none _ _) (fun _ hk => hk) trivial (HBA.out) (HBA.out).size (by simp) ?_
              case hR5 => first | (go_simp; done) | (go_simp; rfl)
              intro v1 wb ho hb hg hn
              have HO1 := Aside0.mk ho
              have HNE : Aside0 (∀ k, v1.ownBlock = some k → some k ≠ v4.ownBlock) := ⟨fun k hk e => own_neq HO4.out hn k e.symm hk.symm⟩
              replace HO4 := Aside0.mk (Kd.R_grown HO4.out hg (fun _ _ h => by cases h))
              have HBA := Aside0.mk hb
              clear ho hb hg hn
              refine hK.out _ _ (⟨pw_cell_undrew HOL.out HBA.out d0, pw_cell_undrew HOL.out HBA.out d1, pw_cell_undrew HOL.out HBA.out d2⟩) (fun hHeld => ?_)
              clear hK K
              try simp only [Act.put, List.setIfInBounds_toArray, List.set_cons_zero, List.set_cons_succ]
              refine wpAnyH_ready (rs := [3]) (by kernel_rfl) (by simp) ?_
              refine AllReadyH.cons rfl (fun K hK => ?_) AllReadyH.nil
              refine Kd.R_append_rows_step k44 (Rr := k44.K wb) (w0 := wq.drew) wq.heap.size (by kernel_rfl) (.tmp 106) (.tmp 107) 27 44 _ _ rfl Tryd.underlying27 info44 rfl (by decide) (by decide) v1 [] l A l.length c (fun _ => True) (fun _ => False) rfl rfl HO1.out (Kd.C_below HR.out (below_then HB.out HB.out.size (below_undrewn (HBA.out)))) (fun _ _ h => h) (fun _ hk => hk.elim) (fun _ _ => trivial) (HBA.out) (HBA.out).size (by simp <;> omega) ?_
              intro v2 wc ho hb hg _
              rw [List.nil_append] at ho
              have HO2 := Aside0.mk ho
              replace HO4 := Aside0.mk (Kd.R_grown2 HO4.out rfl hg HNE.out)
              have HBA := Aside0.mk hb
              clear ho hb hg HO1
              refine hK.out _ _ (⟨pw_cell_undrew HOL.out HBA.out d0, pw_cell_undrew HOL.out HBA.out d1, pw_cell_undrew HOL.out HBA.out d2⟩) (fun hHeld => ?_)
              clear hK K
              try simp only [Act.put, List.setIfInBounds_toArray, List.set_cons_zero, List.set_cons_succ]
              refine wpAnyH_ready (rs := [7]) (by kernel_rfl) (by simp) ?_
              refine AllReadyH.cons rfl (fun K hK => ?_) AllReadyH.nil
              obtain ⟨A4, c4, hv4, hc4, hC4⟩ := Kd.R_reads HO4.out
              subst hv4
              refine Kd.R_append_rows_step k44 (Rr := k44.K wc) (w0 := wq.drew) wq.heap.size (by kernel_rfl) (.tmp 108) (.tmp 111) 27 44 _ _ rfl Tryd.underlying27 info44 rfl (by decide) (by decide) v2 l [(⟨a0, a1, a2⟩ : S44)] A4 1 c4 (fun _ => True) (fun _ => False) rfl rfl HO2.out hC4 (fun _ _ h => h) (fun _ hk => hk.elim) (fun _ _ => trivial) HBA.out HBA.out.size (by omega) ?_
              intro v5 wy ho5 hb5 _ _
              rw [HYA.out] at ho5
              obtain ⟨Ay, cy, hvy, hcy, hCy⟩ := Kd.R_reads ho5
              subst hvy
              have HCy := Aside0.mk hCy
              have HCCy := Aside0.mk hcy
              have HBY := Aside0.mk hb5
              clear ho5 hb5 hCy hcy hC4 hc4 HO2 HO4 HBA
              refine hK.out _ _ (⟨pw_cell_undrew HOL.out HBY.out d0, pw_cell_undrew HOL.out HBY.out d1, pw_cell_undrew HOL.out HBY.out d2⟩) (fun hHeld => ?_)
              clear hK K
              try simp only [Act.put, List.setIfInBounds_toArray, List.set_cons_zero, List.set_cons_succ]
              refine wpAnyH_ready (rs := [8]) (by kernel_rfl) (by simp) ?_
              refine AllReadyH.cons rfl (fun K hK => ?_) AllReadyH.nil
              focus go_simp
              refine (HGA0.out _ Ay cy (below_then HB.out HB.out.size (below_undrewn HBY.out)) HCCy.out HCy.out).mono ?_
              rintro e wu ⟨rfl, hb⟩
              replace HBY : Aside0 (Below wq.heap.size wq.drew wu) := ⟨below_then HBY.out HBY.out.size hb⟩
              clear hb HCy HCCy
              focus go_wp2_with fail
              refine hK.out _ _ (⟨pw_cell_undrew HOL.out HBY.out d0, pw_cell_undrew HOL.out HBY.out d1, pw_cell_undrew HOL.out HBY.out d2⟩) (fun hHeld => ?_)
              clear hK K
              try simp only [Act.put, List.setIfInBounds_toArray, List.set_cons_zero, List.set_cons_succ]
              refine H_on 9 104 ?vZrc9 rfl rfl (by kernel_rfl) (by kernel_rfl) (by kernel_rfl) (by rfl) ?hZrc9 hHeld ?rZrc9
              case hZrc9 => (intro w hSw; obtain ⟨s0, s1, s2⟩ := hSw; go_simp <;> with_reducible rfl)
              simp only [Act.put, List.setIfInBounds_toArray, List.set_cons_zero, List.set_cons_succ]
              refine H_on 10 114 ?vZrc10 rfl rfl (by kernel_rfl) (by kernel_rfl) (by kernel_rfl) (by rfl) ?hZrc10 hHeld ?rZrc10
              case hZrc10 => (intro w hSw; obtain ⟨s0, s1, s2⟩ := hSw; go_simp <;> with_reducible rfl)
              simp only [Act.put, List.setIfInBounds_toArray, List.set_cons_zero, List.set_cons_succ]
              refine H_on 11 115 ?vZrc11 rfl rfl (by kernel_rfl) (by kernel_rfl) (by kernel_rfl) (by rfl) ?hZrc11 hHeld ?rZrc11
              case hZrc11 => (intro w hSw; obtain ⟨s0, s1, s2⟩ := hSw; go_simp <;> with_reducible rfl)
              simp only [Act.put, List.setIfInBounds_toArray, List.set_cons_zero, List.set_cons_succ]
              refine H_on 12 17 ?vZrc12 rfl rfl (by kernel_rfl) (by kernel_rfl) (by kernel_rfl) (by rfl) ?hZrc12 hHeld ?rZrc12
              case hZrc12 => (intro w hSw; obtain ⟨s0, s1, s2⟩ := hSw; go_simp <;> with_reducible rfl)
              simp only [Act.put, List.setIfInBounds_toArray, List.set_cons_zero, List.set_cons_succ]
              refine H_on 13 18 ?vZrc13 rfl rfl (by kernel_rfl) (by kernel_rfl) (by kernel_rfl) (by rfl) ?hZrc13 hHeld ?rZrc13
              case hZrc13 => (intro w hSw; obtain ⟨s0, s1, s2⟩ := hSw; go_simp <;> with_reducible rfl)
              simp only [Act.put, List.setIfInBounds_toArray, List.set_cons_zero, List.set_cons_succ]
              refine wpAnyH_done (by kernel_rfl) ?_ _
              refine NoPanic.normal ?_
              clear hHeld
              focus (go_wp2; go_meet; (case rel => exact ⟨rfl, ⟨below_undrewn HBY.out⟩⟩))
            case rest =>
              obtain ⟨rfl, HBU⟩ := hcut
              replace HB := Aside0.mk (below_then HB.out HB.out.size HBU.out)
              replace HK := Aside0.mk (below_then HK.out HK.out.size HBU.out)
              replace HN15 := Aside0.mk ((HBU.out.block tb (YtdbbcngmnpejnaaDoorW.PrintWords.blk_lt HN15.out)).trans HN15.out)
              replace HN16 := Aside0.mk ((HBU.out.block ob (YtdbbcngmnpejnaaDoorW.PrintWords.blk_lt HN16.out)).trans HN16.out)
              clear HBU
              rename World => wu
              go_upto_region 22 with fail
              go_cut [20] (fun v20 wc => v20 = .int .i64 gB ∧ Aside0 (Below wu.heap.size wu wc))
              case first =>
                have HOL : Aside0 (ob < wu.heap.size) := ⟨YtdbbcngmnpejnaaDoorW.PrintWords.blk_lt HN16.out⟩
                have d0 : wu.cell? ⟨ob, 0, none⟩ = some (.int .i64 a0) := blk_cell HN16.out 0
                have d1 : wu.cell? ⟨ob, 1, none⟩ = some (.int .i64 a1) := blk_cell HN16.out 1
                have d2 : wu.cell? ⟨ob, 2, none⟩ = some (.int .i64 a2) := blk_cell HN16.out 2
                have d3 : wu.cell? ⟨ob, 3, none⟩ = some (.int .i64 b0) := blk_cell HN16.out 3
                have d4 : wu.cell? ⟨ob, 4, none⟩ = some (.int .i64 b1) := blk_cell HN16.out 4
                have d5 : wu.cell? ⟨ob, 5, none⟩ = some (.int .i64 b2) := blk_cell HN16.out 5
                refine wp_region_noPanic ?_
                refine wp_region_held_drew (S := fun w' => w'.cell? ⟨ob, 3, none⟩ = some (.int .i64 b0) ∧ w'.cell? ⟨ob, 4, none⟩ = some (.int .i64 b1) ∧ w'.cell? ⟨ob, 5, none⟩ = some (.int .i64 b2)) (by kernel_rfl) (⟨d3, d4, d5⟩) (fun hHeld => ?_)
                refine H_on 0 117 ?vs0 rfl rfl (by kernel_rfl) (by kernel_rfl) (by kernel_rfl) (by rfl) ?hs0 hHeld ?rs0
                case hs0 => (intro w hSw; obtain ⟨s0, s1, s2⟩ := hSw; go_simp <;> with_reducible rfl)
                simp only [Act.put, List.setIfInBounds_toArray, List.set_cons_zero, List.set_cons_succ]
                refine H_on 2 119 ?vs2 rfl rfl (by kernel_rfl) (by kernel_rfl) (by kernel_rfl) (by rfl) ?hs2 hHeld ?rs2
                case hs2 => (intro w hSw; obtain ⟨s0, s1, s2⟩ := hSw; go_simp <;> with_reducible rfl)
                simp only [Act.put, List.setIfInBounds_toArray, List.set_cons_zero, List.set_cons_succ]
                refine H_on 4 121 ?vs4 rfl rfl (by kernel_rfl) (by kernel_rfl) (by kernel_rfl) (by rfl) ?hs4 hHeld ?rs4
                case hs4 => (intro w hSw; obtain ⟨s0, s1, s2⟩ := hSw; go_simp <;> with_reducible rfl)
                simp only [Act.put, List.setIfInBounds_toArray, List.set_cons_zero, List.set_cons_succ]
                refine H_on 5 122 ?vs5 rfl rfl (by kernel_rfl) (by kernel_rfl) (by kernel_rfl) (by rfl) ?hs5 hHeld ?rs5
                case hs5 => (intro w hSw; obtain ⟨s0, s1, s2⟩ := hSw; go_simp <;> with_reducible rfl)
                simp only [Act.put, List.setIfInBounds_toArray, List.set_cons_zero, List.set_cons_succ]
                refine wpAnyH_ready (rs := [1, 6]) (by kernel_rfl) (by simp) ?_
                refine AllReadyH.cons rfl (fun K hK => ?_) (AllReadyH.cons rfl (fun K hK => ?_) AllReadyH.nil)
                refine Kd.R_lit_step k44 (w0 := wu.drew) wu.heap.size 44 (by kernel_rfl) (N := 118) rfl (xs := ([] : List S44)) (inner := []) (ok := fun _ => True) (okp := fun _ => True) ?hR6 (Reps.none _ _) (fun _ hk => hk) trivial (Below.refl wu.heap.size wu.drew) (Below.refl wu.heap.size wu.drew).size (by simp) ?_
                case hR6 => first | (go_simp; done) | (go_simp; rfl)
                intro v1 wa ho hb hg hn
                have HO1 := Aside0.mk ho
                have HBA := Aside0.mk hb
                clear ho hb hg hn
                refine hK.out _ _ (⟨pw_cell_undrew HOL.out HBA.out d3, pw_cell_undrew HOL.out HBA.out d4, pw_cell_undrew HOL.out HBA.out d5⟩) (fun hHeld => ?_)
                clear hK K
                try simp only [Act.put, List.setIfInBounds_toArray, List.set_cons_zero, List.set_cons_succ]
                refine wpAnyH_ready (rs := [3, 6]) (by kernel_rfl) (by simp) ?_
                refine AllReadyH.cons rfl (fun K hK => ?_) (AllReadyH.cons rfl (fun K hK => ?_) AllReadyH.nil)
                refine Kd.R_append_rows_step k44 (Rr := k44.K wa) (w0 := wu.drew) wu.heap.size (by kernel_rfl) (.tmp 118) (.tmp 119) 27 44 _ _ rfl Tryd.underlying27 info44 rfl (by decide) (by decide) v1 [] l A l.length c (fun _ => True) (fun _ => False) rfl rfl HO1.out (Kd.C_below HR.out (below_then HB.out HB.out.size (below_undrewn (HBA.out)))) (fun _ _ h => h) (fun _ hk => hk.elim) (fun _ _ => trivial) (HBA.out) (HBA.out).size (by simp <;> omega) ?_
                intro v2 wb ho hb hg _
                rw [List.nil_append] at ho
                have HO2 := Aside0.mk ho
                have HBA := Aside0.mk hb
                clear ho hb hg HO1
                refine hK.out _ _ (⟨pw_cell_undrew HOL.out HBA.out d3, pw_cell_undrew HOL.out HBA.out d4, pw_cell_undrew HOL.out HBA.out d5⟩) (fun hHeld => ?_)
                clear hK K
                try simp only [Act.put, List.setIfInBounds_toArray, List.set_cons_zero, List.set_cons_succ]
                refine wpAnyH_ready (rs := [6]) (by kernel_rfl) (by simp) ?_
                refine AllReadyH.cons rfl (fun K hK => ?_) AllReadyH.nil
                refine Kd.R_lit_step k44 (w0 := wu.drew) wu.heap.size 44 (by kernel_rfl) (N := 123) rfl (xs := [(⟨b0, b1, b2⟩ : S44)]) (inner := [.int .i64 b0, .int .i64 b1, .int .i64 b2]) (ok := fun _ => True) (okp := fun _ => True) ?hR7 (repsN44 (⟨b0, b1, b2⟩ : S44)) (fun _ hk => hk) trivial (HBA.out) (HBA.out).size (by simp) ?_
                case hR7 => first | (go_simp; done) | (go_simp; rfl)
                intro v4 wc ho hb hg hn
                have HO4 := Aside0.mk ho
                replace HO2 := Aside0.mk (Kd.R_grown HO2.out hg (fun _ _ h => by cases h))
                have HBA := Aside0.mk hb
                clear ho hb hg hn
                refine hK.out _ _ (⟨pw_cell_undrew HOL.out HBA.out d3, pw_cell_undrew HOL.out HBA.out d4, pw_cell_undrew HOL.out HBA.out d5⟩) (fun hHeld => ?_)
                clear hK K
                try simp only [Act.put, List.setIfInBounds_toArray, List.set_cons_zero, List.set_cons_succ]
                refine wpAnyH_ready (rs := [7]) (by kernel_rfl) (by simp) ?_
                refine AllReadyH.cons rfl (fun K hK => ?_) AllReadyH.nil
                obtain ⟨A4, c4, hv4, hc4, hC4⟩ := Kd.R_reads HO4.out
                subst hv4
                refine Kd.R_append_rows_step k44 (Rr := k44.K wc) (w0 := wu.drew) wu.heap.size (by kernel_rfl) (.tmp 120) (.tmp 123) 27 44 _ _ rfl Tryd.underlying27 info44 rfl (by decide) (by decide) v2 l [(⟨b0, b1, b2⟩ : S44)] A4 1 c4 (fun _ => True) (fun _ => False) rfl rfl HO2.out hC4 (fun _ _ h => h) (fun _ hk => hk.elim) (fun _ _ => trivial) HBA.out HBA.out.size (by omega) ?_
                intro v5 wy ho5 hb5 _ _
                rw [HYB.out] at ho5
                obtain ⟨Ay, cy, hvy, hcy, hCy⟩ := Kd.R_reads ho5
                subst hvy
                have HCy := Aside0.mk hCy
                have HCCy := Aside0.mk hcy
                have HBY := Aside0.mk hb5
                clear ho5 hb5 hCy hcy hC4 hc4 HO2 HO4 HBA
                refine hK.out _ _ (⟨pw_cell_undrew HOL.out HBY.out d3, pw_cell_undrew HOL.out HBY.out d4, pw_cell_undrew HOL.out HBY.out d5⟩) (fun hHeld => ?_)
                clear hK K
                try simp only [Act.put, List.setIfInBounds_toArray, List.set_cons_zero, List.set_cons_succ]
                refine wpAnyH_ready (rs := [8]) (by kernel_rfl) (by simp) ?_
                refine AllReadyH.cons rfl (fun K hK => ?_) AllReadyH.nil
                focus go_simp
                refine (HGB0.out _ Ay cy (below_then HB.out HB.out.size (below_undrewn HBY.out)) HCCy.out HCy.out).mono ?_
                rintro e wv ⟨rfl, hb⟩
                replace HBY : Aside0 (Below wu.heap.size wu.drew wv) := ⟨below_then HBY.out HBY.out.size hb⟩
                clear hb HCy HCCy
                focus go_wp2_with fail
                refine hK.out _ _ (⟨pw_cell_undrew HOL.out HBY.out d3, pw_cell_undrew HOL.out HBY.out d4, pw_cell_undrew HOL.out HBY.out d5⟩) (fun hHeld => ?_)
                clear hK K
                try simp only [Act.put, List.setIfInBounds_toArray, List.set_cons_zero, List.set_cons_succ]
                refine H_on 9 116 ?vZsa9 rfl rfl (by kernel_rfl) (by kernel_rfl) (by kernel_rfl) (by rfl) ?hZsa9 hHeld ?rZsa9
                case hZsa9 => (intro w hSw; obtain ⟨s0, s1, s2⟩ := hSw; go_simp <;> with_reducible rfl)
                simp only [Act.put, List.setIfInBounds_toArray, List.set_cons_zero, List.set_cons_succ]
                refine H_on 10 126 ?vZsa10 rfl rfl (by kernel_rfl) (by kernel_rfl) (by kernel_rfl) (by rfl) ?hZsa10 hHeld ?rZsa10
                case hZsa10 => (intro w hSw; obtain ⟨s0, s1, s2⟩ := hSw; go_simp <;> with_reducible rfl)
                simp only [Act.put, List.setIfInBounds_toArray, List.set_cons_zero, List.set_cons_succ]
                refine H_on 11 127 ?vZsa11 rfl rfl (by kernel_rfl) (by kernel_rfl) (by kernel_rfl) (by rfl) ?hZsa11 hHeld ?rZsa11
                case hZsa11 => (intro w hSw; obtain ⟨s0, s1, s2⟩ := hSw; go_simp <;> with_reducible rfl)
                simp only [Act.put, List.setIfInBounds_toArray, List.set_cons_zero, List.set_cons_succ]
                refine H_on 12 19 ?vZsa12 rfl rfl (by kernel_rfl) (by kernel_rfl) (by kernel_rfl) (by rfl) ?hZsa12 hHeld ?rZsa12
                case hZsa12 => (intro w hSw; obtain ⟨s0, s1, s2⟩ := hSw; go_simp <;> with_reducible rfl)
                simp only [Act.put, List.setIfInBounds_toArray, List.set_cons_zero, List.set_cons_succ]
                refine H_on 13 20 ?vZsa13 rfl rfl (by kernel_rfl) (by kernel_rfl) (by kernel_rfl) (by rfl) ?hZsa13 hHeld ?rZsa13
                case hZsa13 => (intro w hSw; obtain ⟨s0, s1, s2⟩ := hSw; go_simp <;> with_reducible rfl)
                simp only [Act.put, List.setIfInBounds_toArray, List.set_cons_zero, List.set_cons_succ]
                refine wpAnyH_done (by kernel_rfl) ?_ _
                refine NoPanic.normal ?_
                clear hHeld
                focus (go_wp2; go_meet; (case rel => exact ⟨rfl, ⟨below_undrewn HBY.out⟩⟩))
                refine Kd.R_lit_step k44 (w0 := wu.drew) wu.heap.size 44 (by kernel_rfl) (N := 123) rfl (xs := [(⟨b0, b1, b2⟩ : S44)]) (inner := [.int .i64 b0, .int .i64 b1, .int .i64 b2]) (ok := fun _ => True) (okp := fun _ => True) ?hR8 (repsN44 (⟨b0, b1, b2⟩ : S44)) (fun _ hk => hk) trivial (HBA.out) (HBA.out).size (by simp) ?_
                case hR8 => first | (go_simp; done) | (go_simp; rfl)
                intro v4 wb ho hb hg hn
                have HO4 := Aside0.mk ho
                have HNE : Aside0 (∀ k, v1.ownBlock = some k → some k ≠ v4.ownBlock) := ⟨own_neq HO1.out hn⟩
                replace HO1 := Aside0.mk (Kd.R_grown HO1.out hg (fun _ _ h => by cases h))
                have HBA := Aside0.mk hb
                clear ho hb hg hn
                refine hK.out _ _ (⟨pw_cell_undrew HOL.out HBA.out d3, pw_cell_undrew HOL.out HBA.out d4, pw_cell_undrew HOL.out HBA.out d5⟩) (fun hHeld => ?_)
                clear hK K
                try simp only [Act.put, List.setIfInBounds_toArray, List.set_cons_zero, List.set_cons_succ]
                refine wpAnyH_ready (rs := [3]) (by kernel_rfl) (by simp) ?_
                refine AllReadyH.cons rfl (fun K hK => ?_) AllReadyH.nil
                refine Kd.R_append_rows_step k44 (Rr := k44.K wb) (w0 := wu.drew) wu.heap.size (by kernel_rfl) (.tmp 118) (.tmp 119) 27 44 _ _ rfl Tryd.underlying27 info44 rfl (by decide) (by decide) v1 [] l A l.length c (fun _ => True) (fun _ => False) rfl rfl HO1.out (Kd.C_below HR.out (below_then HB.out HB.out.size (below_undrewn (HBA.out)))) (fun _ _ h => h) (fun _ hk => hk.elim) (fun _ _ => trivial) (HBA.out) (HBA.out).size (by simp <;> omega) ?_
                intro v2 wc ho hb hg _
                rw [List.nil_append] at ho
                have HO2 := Aside0.mk ho
                replace HO4 := Aside0.mk (Kd.R_grown2 HO4.out rfl hg HNE.out)
                have HBA := Aside0.mk hb
                clear ho hb hg HO1
                refine hK.out _ _ (⟨pw_cell_undrew HOL.out HBA.out d3, pw_cell_undrew HOL.out HBA.out d4, pw_cell_undrew HOL.out HBA.out d5⟩) (fun hHeld => ?_)
                clear hK K
                try simp only [Act.put, List.setIfInBounds_toArray, List.set_cons_zero, List.set_cons_succ]
                refine wpAnyH_ready (rs := [7]) (by kernel_rfl) (by simp) ?_
                refine AllReadyH.cons rfl (fun K hK => ?_) AllReadyH.nil
                obtain ⟨A4, c4, hv4, hc4, hC4⟩ := Kd.R_reads HO4.out
                subst hv4
                refine Kd.R_append_rows_step k44 (Rr := k44.K wc) (w0 := wu.drew) wu.heap.size (by kernel_rfl) (.tmp 120) (.tmp 123) 27 44 _ _ rfl Tryd.underlying27 info44 rfl (by decide) (by decide) v2 l [(⟨b0, b1, b2⟩ : S44)] A4 1 c4 (fun _ => True) (fun _ => False) rfl rfl HO2.out hC4 (fun _ _ h => h) (fun _ hk => hk.elim) (fun _ _ => trivial) HBA.out HBA.out.size (by omega) ?_
                intro v5 wy ho5 hb5 _ _
                rw [HYB.out] at ho5
                obtain ⟨Ay, cy, hvy, hcy, hCy⟩ := Kd.R_reads ho5
                subst hvy
                have HCy := Aside0.mk hCy
                have HCCy := Aside0.mk hcy
                have HBY := Aside0.mk hb5
                clear ho5 hb5 hCy hcy hC4 hc4 HO2 HO4 HBA
                refine hK.out _ _ (⟨pw_cell_undrew HOL.out HBY.out d3, pw_cell_undrew HOL.out HBY.out d4, pw_cell_undrew HOL.out HBY.out d5⟩) (fun hHeld => ?_)
                clear hK K
                try simp only [Act.put, List.setIfInBounds_toArray, List.set_cons_zero, List.set_cons_succ]
                refine wpAnyH_ready (rs := [8]) (by kernel_rfl) (by simp) ?_
                refine AllReadyH.cons rfl (fun K hK => ?_) AllReadyH.nil
                focus go_simp
                refine (HGB0.out _ Ay cy (below_then HB.out HB.out.size (below_undrewn HBY.out)) HCCy.out HCy.out).mono ?_
                rintro e wv ⟨rfl, hb⟩
                replace HBY : Aside0 (Below wu.heap.size wu.drew wv) := ⟨below_then HBY.out HBY.out.size hb⟩
                clear hb HCy HCCy
                focus go_wp2_with fail
                refine hK.out _ _ (⟨pw_cell_undrew HOL.out HBY.out d3, pw_cell_undrew HOL.out HBY.out d4, pw_cell_undrew HOL.out HBY.out d5⟩) (fun hHeld => ?_)
                clear hK K
                try simp only [Act.put, List.setIfInBounds_toArray, List.set_cons_zero, List.set_cons_succ]
                refine H_on 9 116 ?vZsb9 rfl rfl (by kernel_rfl) (by kernel_rfl) (by kernel_rfl) (by rfl) ?hZsb9 hHeld ?rZsb9
                case hZsb9 => (intro w hSw; obtain ⟨s0, s1, s2⟩ := hSw; go_simp <;> with_reducible rfl)
                simp only [Act.put, List.setIfInBounds_toArray, List.set_cons_zero, List.set_cons_succ]
                refine H_on 10 126 ?vZsb10 rfl rfl (by kernel_rfl) (by kernel_rfl) (by kernel_rfl) (by rfl) ?hZsb10 hHeld ?rZsb10
                case hZsb10 => (intro w hSw; obtain ⟨s0, s1, s2⟩ := hSw; go_simp <;> with_reducible rfl)
                simp only [Act.put, List.setIfInBounds_toArray, List.set_cons_zero, List.set_cons_succ]
                refine H_on 11 127 ?vZsb11 rfl rfl (by kernel_rfl) (by kernel_rfl) (by kernel_rfl) (by rfl) ?hZsb11 hHeld ?rZsb11
                case hZsb11 => (intro w hSw; obtain ⟨s0, s1, s2⟩ := hSw; go_simp <;> with_reducible rfl)
                simp only [Act.put, List.setIfInBounds_toArray, List.set_cons_zero, List.set_cons_succ]
                refine H_on 12 19 ?vZsb12 rfl rfl (by kernel_rfl) (by kernel_rfl) (by kernel_rfl) (by rfl) ?hZsb12 hHeld ?rZsb12
                case hZsb12 => (intro w hSw; obtain ⟨s0, s1, s2⟩ := hSw; go_simp <;> with_reducible rfl)
                simp only [Act.put, List.setIfInBounds_toArray, List.set_cons_zero, List.set_cons_succ]
                refine H_on 13 20 ?vZsb13 rfl rfl (by kernel_rfl) (by kernel_rfl) (by kernel_rfl) (by rfl) ?hZsb13 hHeld ?rZsb13
                case hZsb13 => (intro w hSw; obtain ⟨s0, s1, s2⟩ := hSw; go_simp <;> with_reducible rfl)
                simp only [Act.put, List.setIfInBounds_toArray, List.set_cons_zero, List.set_cons_succ]
                refine wpAnyH_done (by kernel_rfl) ?_ _
                refine NoPanic.normal ?_
                clear hHeld
                focus (go_wp2; go_meet; (case rel => exact ⟨rfl, ⟨below_undrewn HBY.out⟩⟩))
                refine Kd.R_lit_step k44 (w0 := wu.drew) wu.heap.size 44 (by kernel_rfl) (N := 123) rfl (xs := [(⟨b0, b1, b2⟩ : S44)]) (inner := [.int .i64 b0, .int .i64 b1, .int .i64 b2]) (ok := fun _ => True) (okp := fun _ => True) ?hR9 (repsN44 (⟨b0, b1, b2⟩ : S44)) (fun _ hk => hk) trivial (Below.refl wu.heap.size wu.drew) (Below.refl wu.heap.size wu.drew).size (by simp) ?_
                case hR9 => first | (go_simp; done) | (go_simp; rfl)
                intro v4 wa ho hb hg hn
                have HO4 := Aside0.mk ho
                have HBA := Aside0.mk hb
                clear ho hb hg hn
                refine hK.out _ _ (⟨pw_cell_undrew HOL.out HBA.out d3, pw_cell_undrew HOL.out HBA.out d4, pw_cell_undrew HOL.out HBA.out d5⟩) (fun hHeld => ?_)
                clear hK K
                try simp only [Act.put, List.setIfInBounds_toArray, List.set_cons_zero, List.set_cons_succ]
                refine wpAnyH_ready (rs := [1]) (by kernel_rfl) (by simp) ?_
                refine AllReadyH.cons rfl (fun K hK => ?_) AllReadyH.nil
                refine Kd.R_lit_step k44 (w0 := wu.drew) wu.heap.size 44 (by kernel_rfl) (N := 118) rfl (xs := ([] : List S44)) (inner := []) (ok := fun _ => True) (okp := fun _ => True) ?hR10 (Reps.none _ _) (fun _ hk => hk) trivial (HBA.out) (HBA.out).size (by simp) ?_
                case hR10 => first | (go_simp; done) | (go_simp; rfl)
                intro v1 wb ho hb hg hn
                have HO1 := Aside0.mk ho
                have HNE : Aside0 (∀ k, v1.ownBlock = some k → some k ≠ v4.ownBlock) := ⟨fun k hk e => own_neq HO4.out hn k e.symm hk.symm⟩
                replace HO4 := Aside0.mk (Kd.R_grown HO4.out hg (fun _ _ h => by cases h))
                have HBA := Aside0.mk hb
                clear ho hb hg hn
                refine hK.out _ _ (⟨pw_cell_undrew HOL.out HBA.out d3, pw_cell_undrew HOL.out HBA.out d4, pw_cell_undrew HOL.out HBA.out d5⟩) (fun hHeld => ?_)
                clear hK K
                try simp only [Act.put, List.setIfInBounds_toArray, List.set_cons_zero, List.set_cons_succ]
                refine wpAnyH_ready (rs := [3]) (by kernel_rfl) (by simp) ?_
                refine AllReadyH.cons rfl (fun K hK => ?_) AllReadyH.nil
                refine Kd.R_append_rows_step k44 (Rr := k44.K wb) (w0 := wu.drew) wu.heap.size (by kernel_rfl) (.tmp 118) (.tmp 119) 27 44 _ _ rfl Tryd.underlying27 info44 rfl (by decide) (by decide) v1 [] l A l.length c (fun _ => True) (fun _ => False) rfl rfl HO1.out (Kd.C_below HR.out (below_then HB.out HB.out.size (below_undrewn (HBA.out)))) (fun _ _ h => h) (fun _ hk => hk.elim) (fun _ _ => trivial) (HBA.out) (HBA.out).size (by simp <;> omega) ?_
                intro v2 wc ho hb hg _
                rw [List.nil_append] at ho
                have HO2 := Aside0.mk ho
                replace HO4 := Aside0.mk (Kd.R_grown2 HO4.out rfl hg HNE.out)
                have HBA := Aside0.mk hb
                clear ho hb hg HO1
                refine hK.out _ _ (⟨pw_cell_undrew HOL.out HBA.out d3, pw_cell_undrew HOL.out HBA.out d4, pw_cell_undrew HOL.out HBA.out d5⟩) (fun hHeld => ?_)
                clear hK K
                try simp only [Act.put, List.setIfInBounds_toArray, List.set_cons_zero, List.set_cons_succ]
                refine wpAnyH_ready (rs := [7]) (by kernel_rfl) (by simp) ?_
                refine AllReadyH.cons rfl (fun K hK => ?_) AllReadyH.nil
                obtain ⟨A4, c4, hv4, hc4, hC4⟩ := Kd.R_reads HO4.out
                subst hv4
                refine Kd.R_append_rows_step k44 (Rr := k44.K wc) (w0 := wu.drew) wu.heap.size (by kernel_rfl) (.tmp 120) (.tmp 123) 27 44 _ _ rfl Tryd.underlying27 info44 rfl (by decide) (by decide) v2 l [(⟨b0, b1, b2⟩ : S44)] A4 1 c4 (fun _ => True) (fun _ => False) rfl rfl HO2.out hC4 (fun _ _ h => h) (fun _ hk => hk.elim) (fun _ _ => trivial) HBA.out HBA.out.size (by omega) ?_
                intro v5 wy ho5 hb5 _ _
                rw [HYB.out] at ho5
                obtain ⟨Ay, cy, hvy, hcy, hCy⟩ := Kd.R_reads ho5
                subst hvy
                have HCy := Aside0.mk hCy
                have HCCy := Aside0.mk hcy
                have HBY := Aside0.mk hb5
                clear ho5 hb5 hCy hcy hC4 hc4 HO2 HO4 HBA
                refine hK.out _ _ (⟨pw_cell_undrew HOL.out HBY.out d3, pw_cell_undrew HOL.out HBY.out d4, pw_cell_undrew HOL.out HBY.out d5⟩) (fun hHeld => ?_)
                clear hK K
                try simp only [Act.put, List.setIfInBounds_toArray, List.set_cons_zero, List.set_cons_succ]
                refine wpAnyH_ready (rs := [8]) (by kernel_rfl) (by simp) ?_
                refine AllReadyH.cons rfl (fun K hK => ?_) AllReadyH.nil
                focus go_simp
                refine (HGB0.out _ Ay cy (below_then HB.out HB.out.size (below_undrewn HBY.out)) HCCy.out HCy.out).mono ?_
                rintro e wv ⟨rfl, hb⟩
                replace HBY : Aside0 (Below wu.heap.size wu.drew wv) := ⟨below_then HBY.out HBY.out.size hb⟩
                clear hb HCy HCCy
                focus go_wp2_with fail
                refine hK.out _ _ (⟨pw_cell_undrew HOL.out HBY.out d3, pw_cell_undrew HOL.out HBY.out d4, pw_cell_undrew HOL.out HBY.out d5⟩) (fun hHeld => ?_)
                clear hK K
                try simp only [Act.put, List.setIfInBounds_toArray, List.set_cons_zero, List.set_cons_succ]
                refine H_on 9 116 ?vZsc9 rfl rfl (by kernel_rfl) (by kernel_rfl) (by kernel_rfl) (by rfl) ?hZsc9 hHeld ?rZsc9
                case hZsc9 => (intro w hSw; obtain ⟨s0, s1, s2⟩ := hSw; go_simp <;> with_reducible rfl)
                simp only [Act.put, List.setIfInBounds_toArray, List.set_cons_zero, List.set_cons_succ]
                refine H_on 10 126 ?vZsc10 rfl rfl (by kernel_rfl) (by kernel_rfl) (by kernel_rfl) (by rfl) ?hZsc10 hHeld ?rZsc10
                case hZsc10 => (intro w hSw; obtain ⟨s0, s1, s2⟩ := hSw; go_simp <;> with_reducible rfl)
                simp only [Act.put, List.setIfInBounds_toArray, List.set_cons_zero, List.set_cons_succ]
                refine H_on 11 127 ?vZsc11 rfl rfl (by kernel_rfl) (by kernel_rfl) (by kernel_rfl) (by rfl) ?hZsc11 hHeld ?rZsc11
                case hZsc11 => (intro w hSw; obtain ⟨s0, s1, s2⟩ := hSw; go_simp <;> with_reducible rfl)
                simp only [Act.put, List.setIfInBounds_toArray, List.set_cons_zero, List.set_cons_succ]
                refine H_on 12 19 ?vZsc12 rfl rfl (by kernel_rfl) (by kernel_rfl) (by kernel_rfl) (by rfl) ?hZsc12 hHeld ?rZsc12
                case hZsc12 => (intro w hSw; obtain ⟨s0, s1, s2⟩ := hSw; go_simp <;> with_reducible rfl)
                simp only [Act.put, List.setIfInBounds_toArray, List.set_cons_zero, List.set_cons_succ]
                refine H_on 13 20 ?vZsc13 rfl rfl (by kernel_rfl) (by kernel_rfl) (by kernel_rfl) (by rfl) ?hZsc13 hHeld ?rZsc13
                case hZsc13 => (intro w hSw; obtain ⟨s0, s1, s2⟩ := hSw; go_simp <;> with_reducible rfl)
                simp only [Act.put, List.setIfInBounds_toArray, List.set_cons_zero, List.set_cons_succ]
                refine wpAnyH_done (by kernel_rfl) ?_ _
                refine NoPanic.normal ?_
                clear hHeld
                focus (go_wp2; go_meet; (case rel => exact ⟨rfl, ⟨below_undrewn HBY.out⟩⟩))
              case rest =>
                obtain ⟨rfl, HBU⟩ := hcut
                replace HB := Aside0.mk (below_then HB.out HB.out.size HBU.out)
                replace HK := Aside0.mk (below_then HK.out HK.out.size HBU.out)
                replace HN15 := Aside0.mk ((HBU.out.block tb (YtdbbcngmnpejnaaDoorW.PrintWords.blk_lt HN15.out)).trans HN15.out)
                clear HBU
                have h1 := HGA1.out
                have h2 := HGB1.out
                obtain ⟨e0, e1, e2, _⟩ := cells3 HN15.out
                cases kA <;> cases kB
                all_goals
                  simp only [if_true, Bool.false_eq_true, if_false] at h1 h2
                  subst h1 h2
                  go_wp2_with (first
                    | (go_at_call 36; go_must (refine (HI.out _ HK.out).mono ?_; rintro e w1 ⟨rfl, hb⟩; replace HK := Aside0.mk (below_then HK.out HK.out.size hb); replace HB := Aside0.mk (below_then HB.out HB.out.size hb); clear hb))
                    | (go_at_call 15; go_must (refine (HAL.out _ HB.out).mono ?_; rintro e w1 ⟨rfl, hb⟩; replace HB := Aside0.mk (below_then HB.out HB.out.size hb); clear hb)))
                  go_ret
                  exact ⟨rfl, HB.out⟩
  · have HM := Aside0.mk hmain
    generalize listE n l = LE at HLI HM
    clear hr hc hT hmain HBD HCL
    by_cases a1 : l.length < 60
    · have a1z : (l.length : Int) < 60 := by omega
      by_cases a3 : n < 3
      · clear HM
        go_enter Tryd.func11, Tryd.ntmps11
        go_wp2_with (first
          | (go_at_call 30; go_must (refine (HLI.out _ HB.out).mono ?_; rintro e w1 ⟨rfl, hb⟩; replace HB := Aside0.mk (below_then HB.out HB.out.size hb); clear hb))
          | (go_at_call 15; go_must (refine (HAL.out _ HB.out).mono ?_; rintro e w1 ⟨rfl, hb⟩; replace HB := Aside0.mk (below_then HB.out HB.out.size hb); clear hb)))
        go_ret
        exact ⟨rfl, HB.out⟩
      · by_cases a4 : n > 8
        · have a5 : 8 < n := a4
          clear HM
          go_enter Tryd.func11, Tryd.ntmps11
          go_wp2_with (first
            | (go_at_call 30; go_must (refine (HLI.out _ HB.out).mono ?_; rintro e w1 ⟨rfl, hb⟩; replace HB := Aside0.mk (below_then HB.out HB.out.size hb); clear hb))
            | (go_at_call 15; go_must (refine (HAL.out _ HB.out).mono ?_; rintro e w1 ⟨rfl, hb⟩; replace HB := Aside0.mk (below_then HB.out HB.out.size hb); clear hb)))
          go_ret
          exact ⟨rfl, HB.out⟩
        · have a5 : ¬ 8 < n := a4
          obtain ⟨e1, e2⟩ := errne (fun h : LE = 0 => HM.out ⟨a1, a3, a4, h⟩)
          clear HM
          go_enter Tryd.func11, Tryd.ntmps11
          go_wp2_with (first
            | (go_at_call 30; go_must (refine (HLI.out _ HB.out).mono ?_; rintro e w1 ⟨rfl, hb⟩; replace HB := Aside0.mk (below_then HB.out HB.out.size hb); clear hb))
            | (go_at_call 15; go_must (refine (HAL.out _ HB.out).mono ?_; rintro e w1 ⟨rfl, hb⟩; replace HB := Aside0.mk (below_then HB.out HB.out.size hb); clear hb)))
          go_ret
          exact ⟨rfl, HB.out⟩
    · have a1z : ¬ (l.length : Int) < 60 := by omega
      have a1y : (l.length : Int) ≥ 60 := by omega
      clear HM
      go_enter Tryd.func11, Tryd.ntmps11
      go_wp2_with (first
        | (go_at_call 30; go_must (refine (HLI.out _ HB.out).mono ?_; rintro e w1 ⟨rfl, hb⟩; replace HB := Aside0.mk (below_then HB.out HB.out.size hb); clear hb))
        | (go_at_call 15; go_must (refine (HAL.out _ HB.out).mono ?_; rintro e w1 ⟨rfl, hb⟩; replace HB := Aside0.mk (below_then HB.out HB.out.size hb); clear hb)))
      go_ret
      exact ⟨rfl, HB.out⟩
end Go.Proofs.YtdbbcngmnpejnaaDoor.B

/- What the laid variables give the walks: the table of math/bits lies; and the door's own heap meets the condition. -/
namespace Go.Proofs.YtdbbcngmnpejnaaDoor.B
open Go.Proofs.YtdbbcngmnpejnaaDoor.A
open Go Go.ChangeShapes Go.WideShapes Go.ChangeAt Go.RowKit
def laidB : List (String × DataW Unit) := [("math/bits.deBruijn32tab", Rows.laid_math_bits_deBruijn32tab), ("math/bits.deBruijn64tab", Rows.laid_math_bits_deBruijn64tab)]
theorem gTab : Tryd.prog.globalNamed "math/bits.deBruijn64tab" = some 1 := by kernel_rfl
theorem tTab : (Tryd.prog.globals[1]?).map (·.type) = some 150 := by kernel_rfl
theorem uTab : Tryd.prog.underlying 150 = some (.array 64 5) := Tryd.underlying150
theorem uU8 : Tryd.prog.underlying 5 = some (.int .u8) := Tryd.underlying5
theorem cU8 : Tryd.prog.cellsOf 5 = 1 := by kernel_rfl
/-- The door's own heap meets the condition. -/
theorem door_met (os : Os) (args : Array Value) : laidMetH Tryd.prog laidB ((World.doorLaid Tryd.prog 24 os).forCall (fun _ _ => 0) ⟨#[], args, []⟩).memory :=
  laidMetH_of_parts3 (fuel := 8) (laidMet_of_run' 8 (by kernel_rfl) (by kernel_rfl)) (by kernel_rfl) (by kernel_rfl)
theorem tab_data : (Rows.laid_math_bits_deBruijn64tab : DataW Unit) = .agg (tab64.map fun n => .lit (.int .u8 n)) := by rfl
theorem of_laid {W : World} (h : laidMetH Tryd.prog laidB W) : TabAt W := by
  rw [MakeChecks.laidMetH_plain _ _ _ (by kernel_rfl)] at h
  obtain ⟨ps, ⟨g0, t0, cs0, f0, p0, q0, hg0, ht0, hv0, hd0, ⟨g1, t1, cs1, f1, p1, q1, hg1, ht1, hv1, hd1, _, _⟩, _⟩, _, _⟩ := h
  obtain rfl := Option.some.inj (gTab.symm.trans hg1)
  obtain rfl := Option.some.inj (tTab.symm.trans ht1)
  rw [tab_data] at hd1
  obtain ⟨xs, m1, rfl, hx1, hlen, hn3, hel⟩ := DataW.trod_array uTab hd1
  intro j hj
  have hj' : j < xs.length := by omega
  have h0 := hel j hj
  rw [cU8, Nat.mul_one, List.getElem?_eq_getElem hj'] at h0
  obtain ⟨k, e1, e2, _⟩ := DataW.trod_int uU8 h0
  simp only [Prod.mk.injEq, DataW.agg.injEq] at hx1
  have hx := congrArg (fun l : List (DataW Unit) => l[j]?) hx1.1
  simp only [List.getElem?_map, List.getElem?_eq_getElem hj', Option.map_some, e2] at hx
  have hjt : j < tab64.length := hj
  rw [List.getElem?_eq_getElem hjt] at hx
  simp only [Option.map_some, Option.some.injEq, DataW.lit.injEq, Lit.int.injEq, true_and] at hx
  have hc := World.var?_cell hg1 hv1 j
  rw [hc]
  have e3 : cs1.toList[j]? = some (.int .u8 k) := by
    have := congrArg (fun l : List Value => l[0]?) e1
    simpa [List.getElem?_take, List.getElem?_drop] using this
  rw [Array.getElem?_toList] at e3
  rw [e3, ← hx]
  simp [List.getD_eq_getElem?_getD, List.getElem?_eq_getElem hjt]
end Go.Proofs.YtdbbcngmnpejnaaDoor.B

/- An argument that is a slice of triples, opened to a row of cells. -/
namespace Go.Proofs.YtdbbcngmnpejnaaDoor.A
open Go.ChangeShapes Go.WideShapes Go.Deep
open Go.RowKit Go.Proofs.YtdbbcngmnpejnaaDoorW.PrintWords
theorem list_of {α : Type} {P : Nat → α → Prop} : ∀ n, (∀ i, i < n → ∃ x, P i x) → ∃ l : List α, l.length = n ∧ ∀ (i : Nat) (x : α), l[i]? = some x → P i x := by
  intro n
  induction n with
  | zero => exact fun _ => ⟨[], rfl, fun i x h => by simp at h⟩
  | succ n ih =>
    intro h
    obtain ⟨l, hl, hp⟩ := ih (fun i hi => h i (by omega))
    obtain ⟨x, hx⟩ := h n (by omega)
    refine ⟨l ++ [x], by simp [hl], fun i y hy => ?_⟩
    by_cases hi : i < l.length
    · rw [List.getElem?_append_left hi] at hy
      exact hp i y hy
    · have e : i = n := by
        have := (List.getElem?_eq_some_iff.1 hy).1
        rw [List.length_append, List.length_singleton] at this
        omega
      subst e
      have : x = y := by simpa [← hl] using hy
      subst this
      exact hx

set_option maxRecDepth 100000 in
theorem open_triples {H : Type} {enc : TypeId × Value → H} {W : World} {a : Option Addr} {len cap : Nat} {d : DataW H} {p : List MemPlace} (h : DataW.Trod enc Tryd.prog W 0 (fun _ => true) true 27 (.slice a len cap) d p) :
    ∃ ps : List S44, ps.length = len ∧ len ≤ cap ∧ cap ≤ maxLen ∧ Kd.C k44 W a len ps := by
  obtain ⟨fuel, hf⟩ := h
  rcases open_slice Tryd.underlying27 hf with ⟨hcs, _⟩ | ⟨x, l, c, m, n, D, Pl, hcs, _, hl, hm, hmm, _, hi⟩
  · simp [Value.cells] at hcs
    obtain ⟨rfl, rfl, rfl⟩ := hcs
    exact ⟨[], rfl, Nat.le_refl _, Nat.zero_le _, rfl, by omega, fun h => absurd h (by omega)⟩
  · simp [Value.cells] at hcs
    obtain ⟨rfl, rfl, rfl⟩ := hcs
    have hC : Tryd.prog.cellsOf 44 = 3 := by kernel_rfl
    have he : ∀ i, i < len → ∃ q : S44, W.cell? (x.add (i * 3)) = some (.int .i64 q.f0) ∧ W.cell? (x.add (i * 3 + 1)) = some (.int .i64 q.f1) ∧ W.cell? (x.add (i * 3 + 2)) = some (.int .i64 q.f2) := by
      intro i hil
      obtain ⟨cs', hc, ht'⟩ := hi i (by rw [hmm, if_pos rfl]; omega)
      rw [hC] at hc
      obtain ⟨ys, n', _, _, hlen, hyl, hfd⟩ := DataW.trod_struct Tryd.underlying44 ht'
      obtain ⟨_, hcl, hat⟩ := World.cells?_some hc
      have h0 := hfd 0 _ rfl
      have h1 := hfd 1 _ rfl
      have h2 := hfd 2 _ rfl
      match cs', hcl, ys, hyl with
      | [c0, c1, c2], _, [y0, y1, y2], _ =>
        have e0 : Tryd.prog.cellsOf 3 = 1 := by kernel_rfl
        simp [e0] at h0 h1 h2
        obtain ⟨n0, hn0, _, _⟩ := DataW.trod_int Tryd.underlying3 h0
        obtain ⟨n1, hn1, _, _⟩ := DataW.trod_int Tryd.underlying3 h1
        obtain ⟨n2, hn2, _, _⟩ := DataW.trod_int Tryd.underlying3 h2
        simp at hn0 hn1 hn2
        subst hn0 hn1 hn2
        refine ⟨⟨n0, n1, n2⟩, ?_, ?_, ?_⟩
        · have := hat 0 (by omega)
          rw [Go.Deep.add_add] at this
          exact this
        · have := hat 1 (by omega)
          rw [Go.Deep.add_add] at this
          exact this
        · have := hat 2 (by omega)
          rw [Go.Deep.add_add] at this
          exact this
    obtain ⟨ps, hps, hall⟩ := list_of len he
    refine ⟨ps, hps, hl, hm, hps, by unfold maxLen at hm; omega, fun _ => ⟨x, rfl, fun j q hj => ⟨[.int .i64 q.f0, .int .i64 q.f1, .int .i64 q.f2], rfl, k44_mk W q, fun i u hu => ?_⟩⟩⟩
    obtain ⟨g0, g1, g2⟩ := hall j q hj
    match i, hu with
    | 0, hu => cases hu; exact g0
    | 1, hu => cases hu; exact g1
    | 2, hu => cases hu; exact g2
end Go.Proofs.YtdbbcngmnpejnaaDoor.A

/- BreedClosure holds: its code returns true and leaves what it was given as it was. Conditions: those of the given statement, none besides. -/
namespace Go.Proofs.YtdbbcngmnpejnaaDoor.breedClosure
open Go.ChangeShapes Go.WideShapes Go.ChangeAt Go.RowKit
open Go.ChangeMaps (open_string shut_string)
open Go.Proofs.YtdbbcngmnpejnaaDoorW.PrintWords
open Go.Proofs.YtdbbcngmnpejnaaDoor.A
set_option linter.unusedVariables false
theorem own : ownKnob Tryd.prog.godebug = none := by kernel_rfl
theorem laidOut : laidOutB Tryd.prog = true := by kernel_rfl
def IsRow (k : IntKind) (w : World) (a : Option Addr) (len cap : Nat) (zs : List Int) : Prop :=
  (a = none ∧ len = 0 ∧ cap = 0 ∧ zs = []) ∨
  ∃ x, a = some x ∧ len ≤ cap ∧ cap ≤ maxLen ∧ zs.length = cap ∧ (∀ i, i < zs.length → w.cell? (x.add i) = some (.int k (zs.getD i 0))) ∧ ∀ n ∈ zs, (Lit.int k n).wf = true
set_option maxRecDepth 100000 in
theorem lifted (os : Os) (started : os.Started) (H : Type) (enc : TypeId × Value → H) :
    ReturnsInHanded {} Tryd.checked os 11 .any (fun w args => (Rows.breedClosureSpec.pre enc Tryd.prog Tryd.f11 [] false w args ∧ laidMetH Tryd.prog Go.Proofs.YtdbbcngmnpejnaaDoor.B.laidB w) ∧ sizedMet enc Tryd.prog Tryd.f11 (OpenSpec.ofChange Rows.breedClosureSpec) false w args)
      (Rows.breedClosureSpec.post enc Tryd.prog Tryd.f11 false true false false) := by
  refine returnsInHanded_of_change_and (C := Tryd.checked) (X := fun w _ => laidMetH Tryd.prog Go.Proofs.YtdbbcngmnpejnaaDoor.B.laidB w) (fun _ _ _ hh h => h.of_heap hh) own started (by kernel_rfl) Tryd.func11
    (ChangeSpec.witness_shaped (enc := enc) (C := Tryd.checked) (os := os) (X := fun w _ => laidMetH Tryd.prog Go.Proofs.YtdbbcngmnpejnaaDoor.B.laidB w) false (World.doorLaid Tryd.prog 24 os) #[.int .i64 0, .slice none 0 0, .int .u16 0] 8 rfl (World.shaped_of_RefB (by kernel_rfl) (by kernel_rfl)) (by kernel_rfl) (by kernel_rfl) (by kernel_rfl) (Go.Proofs.YtdbbcngmnpejnaaDoor.B.door_met os _)) ?_
  intro W base args ds gs before hval0 hW hcnd hsz0 hL _
  have hsz : (DataW.weightsEach Tryd.prog (Tryd.f11.params.toList ++ Rows.breedClosureSpec.plain.varTypes Tryd.prog) (ds ++ gs)).all (· ≤ reachBytes) = true := hsz0
  have hval : ∀ (j : Nat) t v, Tryd.f11.params[j]? = some t → args[j]? = some v → Value.okWide Tryd.prog W .any base t v := hval0
  have hW' := hW
  obtain ⟨p, q, hA0, hV, rfl, hfz, hnd⟩ := hW
  have hA : DataW.TrodAll enc Tryd.prog W 0 (fun _ => true) true Tryd.f11.params.toList args.toList ds p := hA0
  rw [Tryd.params11] at hA hval hsz
  obtain ⟨v0, vs0, d0, ds0, p0, q0, hargs, rfl, rfl, h0, r0⟩ := trodAll_cons hA
  obtain ⟨v1, vs1, d1, ds1, p1, q1, rfl, rfl, rfl, h1, r1⟩ := trodAll_cons r0
  obtain ⟨v2, vs2, d2, ds2, p2, q2, rfl, rfl, rfl, h2, r2⟩ := trodAll_cons r1
  obtain ⟨rfl, rfl, rfl⟩ := trodAll_nil r2
  obtain rfl : args = #[v0, v1, v2] := by cases args; simp_all
  obtain ⟨rfl, rfl⟩ := trodVars_none hV
  obtain ⟨a0, rfl, rfl, rfl, w0⟩ := open_int Tryd.underlying3 (hval 0 3 v0 rfl rfl) h0
  obtain ⟨a1, len1, cap1, rfl⟩ := okWide_slice Tryd.underlying27 (hval 1 27 v1 rfl rfl)
  have k1 := h1
  have lt1 : ∀ x ∈ p1, x.block < W.heap.size := by obtain ⟨m, hm⟩ := k1; exact DataW.trod_lt m _ _ _ hm
  obtain ⟨l1, rfl, hc1, hm1, hr1⟩ := open_triples h1
  obtain ⟨a2, rfl, rfl, rfl, w2⟩ := open_int Tryd.underlying60 (hval 2 60 v2 rfl rfl) h2
  clear hA0 hval0 hsz0 hsz
  refine (B.closure_any a0 a1 cap1 l1 a2 (by have h := w2; simp [Lit.wf, IntKind.min, IntKind.max, IntKind.signed, IntKind.bits] at h; omega) (by have h := w2; simp [Lit.wf, IntKind.min, IntKind.max, IntKind.signed, IntKind.bits] at h; omega) W hr1 hc1 (B.of_laid hL)).mono fun e W' ⟨he, bel⟩ => ?_
  subst he
  exact ⟨_, rfl, _, _, _, [], _, [], hW', trodAll_mk1 (shut_bool Tryd.underlying4 _), (trodAll_cons_mk (shut_int Tryd.underlying3 w0) (trodAll_cons_mk (Below.trod laidOut (by kernel_rfl) (of_decide_eq_true (by kernel_rfl)) k1 bel lt1) (trodAll_cons_mk (shut_int Tryd.underlying60 w2) trodAll_mk0))), rfl, bel.frame _, fun h => by cases h⟩
theorem over : Rows.breedClosureRow.holds Tryd.pinned (OpenSpec.ofChange Rows.breedClosureSpec) :=
  OpenClaim.holds_of_wide 11 Tryd.f11 rfl rfl rfl rfl rfl rfl rfl ⟨rfl, rfl, rfl, rfl, rfl⟩ rfl rfl rfl rfl rfl (by kernel_rfl) Tryd.func11 (by kernel_rfl)
    (of_decide_eq_true (by kernel_rfl)) (by unfold Func.isWrapper; first | (rw [if_pos (by decide +kernel)]; kernel_rfl) | (rw [if_neg (by decide +kernel)]; exact ⟨rfl, rfl⟩))
    (fun os started H enc _ => lifted os started H enc)
theorem proved : Rows.BreedClosureSaid := over
/-- The tied card. -/
theorem card : Rows.BreedClosureCardSaid :=
  Claim7.holds_tied_plain_at .later [] [.data, .data] true (true, "449c50ce385e76ce5fb1e3c7acce1baa715782fc22fdf803fec36f95dc6565be") true
    proved (fun _ h => by cases h) (by kernel_rfl) (fun _ h => by cases h) breedClosure_row_tie rfl ⟨rfl, rfl⟩ (by kernel_rfl) rfl
    (fun f fn hf hfn => by
      obtain rfl : f = 11 := Option.some.inj ((show Tryd.prog.funcNamed "droveway/drovewaylaw05.BreedClosure" = some 11 by kernel_rfl).symm.trans hf) |>.symm
      obtain rfl : fn = Tryd.f11 := (Option.some.inj (Tryd.func11.symm.trans hfn)).symm
      exact ⟨by kernel_rfl, fun j t ht => by
        rw [Tryd.params11] at ht
        have hm : t ∈ [3, 27, 60] := by simpa using Array.mem_of_getElem? ht
        have hall : ([3, 27, 60].all fun u => !Tryd.prog.wantsStandIn u) = true := by kernel_rfl
        exact (show Tryd.prog.wantsStandIn t = false by simpa using List.all_eq_true.1 hall t hm)⟩)
    (by kernel_rfl)
#print axioms card
end Go.Proofs.YtdbbcngmnpejnaaDoor.breedClosure
namespace Go.Proofs.YtdbbcngmnpejnaaDoor
/-- The card, under a short name, for the claim. -/
theorem breedClosure_holds : Rows.BreedClosureCardSaid := breedClosure.card
end Go.Proofs.YtdbbcngmnpejnaaDoor
