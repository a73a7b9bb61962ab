/- Trees as they lie in memory; the least beast of a tree. -/
import Derived.Test.YtdbbcngmnpejnaaDoorZKe1
import Derived.Test.YtdbbcngmnpejnaaDoorProg
import Derived.Below
import Derived.Deep.Draws
import Derived.OwnWalk
import Derived.WalkKit
import Derived.KernelRfl
import Derived.RowKit3
import Derived.Deep.LoopGhost
import Derived.Deep.QuietTactic
import Derived.BigQuiet
import Derived.WideLaws
import Derived.Deep.DeepCutAuto
import Derived.Deep.CutBlock
import Derived.RowKit
import Derived.Outline
import Derived.Laws.BitsLemmas
import Derived.Shelf.Abstract
import Derived.Deep.RegionHeld3
import Derived.OrdersHeld
import Derived.WalkSpells
import Derived.Test.YtdbbcngmnpejnaaDoorWWords
import Derived.Lib.SliceRun
import Derived.Sort.OwnSortedInts
import Derived.Lib.Join
import Derived.Deep.AppendLies
import Derived.Maps.AppendAt
import Derived.Laws.BytesArg
import Derived.Laws.MakeOwn
import Derived.Laws.OwnMore
import Derived.Deep.OwnRows
import Derived.Tactics
import Derived.Lib.ConvBytes
import Derived.Laws.Slices
import Derived.Laws.Rows
import Derived.Lib.AppendStr
import Derived.ArgAppend
import Derived.Laws.IdiomCopy
import Derived.Test.YtdbbcngmnpejnaaDoorWLast
import Derived.Test.YtdbbcngmnpejnaaDoorWTab
import Derived.Test.YtdbbcngmnpejnaaDoorWRepsOne
import Derived.Test.YtdbbcngmnpejnaaDoorWGuard
import Derived.Lib.IndexBytes
/- Trees as they lie in memory; the least beast of a tree. -/
namespace Go.Proofs.YtdbbcngmnpejnaaDoor.A
open Go.RowKit Go.Proofs.YtdbbcngmnpejnaaDoorW.PrintWords
/-- The table of math/bits, as it lies. -/
def tab64 : List Int := [0, 1, 56, 2, 57, 49, 28, 3, 61, 58, 42, 50, 38, 29, 17, 4, 62, 47, 59, 36, 45, 43, 51, 22, 53, 39, 33, 30, 24, 18, 12, 5, 63, 55, 48, 27, 60, 41, 37, 16, 46, 35, 44, 21, 52, 32, 23, 11, 54, 26, 40, 15, 34, 20, 31, 10, 25, 14, 19, 9, 13, 8, 7, 6]
def TabAt (w : World) : Prop := ∀ j : Nat, j < 64 → w.cell? ⟨1, j, none⟩ = some (.int .u8 (tab64.getD j 0))
theorem TabAt.next {w W : World} (h : TabAt w) (hb : Below w.heap.size w W) : TabAt W := fun j hj => pw_cell_below hb (h j hj)
/-- The place in the table, as Go computes it. -/
def tzIx (F : Int) : Int := (IntKind.u64.wrap (bits .and .u64 F (IntKind.u64.wrap (-F)) * 285870213051353865)) / 288230376151711744
theorem tz_table : (List.range 256).all (fun F => F == 0 || (decide (0 ≤ tzIx F) && decide (tzIx F < 64) && decide (tab64.getD (tzIx F).toNat 0 = (low F : Int)))) = true := by decide +kernel
theorem low_le8 (s : Nat) : low s ≤ 8 := by
  have : ∀ k F, lowB F k ≤ k := fun k => by
    induction k with
    | zero => intro F; exact Nat.le_refl _
    | succ k ih => intro F; have := ih (F / 2); rw [lowB]; split <;> omega
  exact this 8 s

set_option maxRecDepth 100000 in
set_option maxHeartbeats 800000 in
theorem tz64_calls (F : Nat) (h0 : F ≠ 0) (h1 : F < 256) (w : World) (hT : TabAt w) : Calls Tryd.prog 107 #[.int .u64 F] w fun e w' => e = .returned (.int .i64 (low F)) ∧ w = w' := by
  have ht := List.all_eq_true.1 tz_table F (List.mem_range.2 h1)
  simp [h0] at ht
  obtain ⟨⟨ht0, ht1⟩, ht2⟩ := ht
  have hne : ((F : Int) == 0) = false := by rw [beq_eq_false_iff_ne]; omega
  have hc := hT (tzIx F).toNat (by omega)
  have hc2 : tab64.getD (tzIx F).toNat 0 = (low F : Int) := by simpa using ht2
  rw [hc2] at hc
  obtain ⟨Z, hZ⟩ : ∃ Z : Nat, tzIx F = Z := ⟨(tzIx F).toNat, by omega⟩
  rw [hZ] at hc ht0 ht1
  rw [Int.toNat_natCast] at hc
  unfold tzIx at hZ
  have hlow := low_le8 F
  generalize low F = b at *
  clear ht2 hT hc2
  go_enter Tryd.func107, Tryd.ntmps107
  go_wp2_with fail
  go_ret
  exact ⟨rfl, rfl⟩
set_option maxRecDepth 100000 in
set_option maxHeartbeats 800000 in
theorem tz_calls (F : Nat) (h0 : F ≠ 0) (h1 : F < 256) (w : World) (hT : TabAt w) : Calls Tryd.prog 86 #[.int .u64 F] w fun e w' => e = .returned (.int .i64 (low F)) ∧ w = w' := by
  have HT := Aside0.mk hT
  have H1 := Aside0.mk h1
  have H0 := Aside0.mk h0
  clear hT h1 h0
  go_enter Tryd.func86, Tryd.ntmps86
  go_wp2_with (go_at_call 107; refine (tz64_calls F H0.out H1.out _ HT.out).mono ?_; rintro e w1 ⟨rfl, rfl⟩)
  go_ret
  exact ⟨rfl, rfl⟩

/-! ### trees -/
mutual
/-- A value is a tree, as it lies; its rows lie in blocks of which ok holds. -/
def TrV (W : World) (ok : Nat → Prop) : Value → BT → Prop
  | v, .leaf i => v = .iface 102 (.agg #[.int .i64 ((2 ^ i : Nat) : Int)])
  | v, .node ks => ∃ b c : Nat, v = .iface 111 (.agg #[.int .i64 ((BT.sets ks : Nat) : Int), .slice (some ⟨b, 0, none⟩) ks.length c]) ∧ ks.length ≤ c ∧ (ok b ∧ b < W.heap.size) ∧ TrL W ok b 0 ks
def TrL (W : World) (ok : Nat → Prop) (b : Nat) : Nat → List BT → Prop
  | _, [] => True
  | j, k :: ks => (∃ v, W.cell? ⟨b, j, none⟩ = some v ∧ TrV W ok v k) ∧ TrL W ok b (j + 1) ks
end
variable {W W' : World} {ok ok' : Nat → Prop}
theorem trl_iff {b : Nat} : ∀ {ks : List BT} {j : Nat}, TrL W ok b j ks ↔ ∀ i k, ks[i]? = some k → ∃ v, W.cell? ⟨b, j + i, none⟩ = some v ∧ TrV W ok v k
  | [], j => by rw [TrL]; simp
  | x :: xs, j => by
    rw [TrL, trl_iff (ks := xs)]
    constructor
    · rintro ⟨h0, h1⟩ i k hi
      cases i with
      | zero => simp at hi; rw [← hi]; exact h0
      | succ i =>
        obtain ⟨v, hv, ht⟩ := h1 i k (by simpa using hi)
        exact ⟨v, by rw [← hv]; congr 2; omega, ht⟩
    · intro h
      refine ⟨by simpa using h 0 x rfl, fun i k hi => ?_⟩
      obtain ⟨v, hv, ht⟩ := h (i + 1) k (by simpa using hi)
      exact ⟨v, by rw [← hv]; congr 2; omega, ht⟩
theorem trv_leaf {v : Value} {i : Nat} : TrV W ok v (.leaf i) ↔ v = .iface 102 (.agg #[.int .i64 ((2 ^ i : Nat) : Int)]) := by rw [TrV]
theorem trv_node {v : Value} {ks : List BT} : TrV W ok v (.node ks) ↔ ∃ b c : Nat, v = .iface 111 (.agg #[.int .i64 ((BT.sets ks : Nat) : Int), .slice (some ⟨b, 0, none⟩) ks.length c]) ∧ ks.length ≤ c ∧ (ok b ∧ b < W.heap.size) ∧ ∀ i k, ks[i]? = some k → ∃ u, W.cell? ⟨b, i, none⟩ = some u ∧ TrV W ok u k := by
  rw [TrV]
  constructor
  · rintro ⟨b, c, h1, h2, h4, h3⟩
    exact ⟨b, c, h1, h2, h4, fun i k hi => by simpa using trl_iff.mp h3 i k hi⟩
  · rintro ⟨b, c, h1, h2, h4, h3⟩
    exact ⟨b, c, h1, h2, h4, trl_iff.mpr fun i k hi => by simpa using h3 i k hi⟩
/-- A tree stays one where its blocks stay. -/
theorem TrV.move (hs : W.heap.size ≤ W'.heap.size) (hb : ∀ b, ok b → b < W.heap.size → W'.heap[b]? = W.heap[b]?) (hk : ∀ b, ok b → b < W.heap.size → ok' b) {t : BT} : ∀ {v : Value}, TrV W ok v t → TrV W' ok' v t := by
  refine BT.ind (P := fun t => ∀ {v : Value}, TrV W ok v t → TrV W' ok' v t) (fun i v h => ?_) (fun ks ih v h => ?_) t
  · rw [trv_leaf] at h ⊢; exact h
  · obtain ⟨b, c, h1, h2, h4, h3⟩ := trv_node.mp h
    refine trv_node.mpr ⟨b, c, h1, h2, ⟨hk b h4.1 h4.2, Nat.lt_of_lt_of_le h4.2 hs⟩, fun i k hi => ?_⟩
    obtain ⟨u, hu, ht⟩ := h3 i k hi
    exact ⟨u, (World.cell?_of_block (hb b h4.1 h4.2)).trans hu, ih k (List.mem_of_getElem? hi) ht⟩
theorem TrV.below (hb : Below W.heap.size W W') {t : BT} {v : Value} (h : TrV W ok v t) : TrV W' ok v t := h.move hb.size (fun b _ hl => hb.block b hl) fun _ h _ => h
theorem TrV.mono (hk : ∀ b, ok b → ok' b) {t : BT} {v : Value} (h : TrV W ok v t) : TrV W ok' v t := h.move (Nat.le_refl _) (fun _ _ _ => rfl) fun b h _ => hk b h
/-- A tree is no nil; it has one of two shapes. -/
theorem TrV.shape {v : Value} {t : BT} (h : TrV W ok v t) : (∃ i, t = .leaf i ∧ v = .iface 102 (.agg #[.int .i64 ((2 ^ i : Nat) : Int)])) ∨ ∃ (ks : List BT) (b c : Nat), t = .node ks ∧ v = .iface 111 (.agg #[.int .i64 ((BT.sets ks : Nat) : Int), .slice (some ⟨b, 0, none⟩) ks.length c]) ∧ ks.length ≤ c ∧ (ok b ∧ b < W.heap.size) ∧ ∀ i k, ks[i]? = some k → ∃ u, W.cell? ⟨b, i, none⟩ = some u ∧ TrV W ok u k := by
  cases t with
  | leaf i => exact .inl ⟨i, rfl, trv_leaf.mp h⟩
  | node ks => obtain ⟨b, c, h1⟩ := trv_node.mp h; exact .inr ⟨ks, b, c, rfl, h1⟩

set_option maxRecDepth 100000 in
set_option maxHeartbeats 800000 in
theorem set_beasts (s : Int) (w : World) : Calls Tryd.prog 134 #[.int .i64 s] w fun e w' => e = .returned (.int .i64 s) ∧ w = w' := by
  go_enter Tryd.func134, Tryd.ntmps134
  go_wp2
  go_ret
  exact ⟨rfl, rfl⟩
theorem meth_leaf (s : Int) (w : World) : (method 289 102 (.agg #[.int .i64 s]) "droveway/breed.beasts").run Tryd.prog w = .ok (134, .int .i64 s) w := by kernel_rfl
theorem meth_node (s : Int) (v : Value) (w : World) : (method 289 111 (.agg #[.int .i64 s, v]) "droveway/breed.beasts").run Tryd.prog w = .ok (134, .int .i64 s) w := by kernel_rfl
set_option maxRecDepth 100000 in
set_option maxHeartbeats 800000 in
theorem first_leaf (s : Nat) (h0 : s ≠ 0) (h1 : s < 256) (w : World) (hT : TabAt w) : Calls Tryd.prog 81 #[.iface 102 (.agg #[.int .i64 (s : Int)])] w fun e w' => e = .returned (.int .i64 (low s)) ∧ w = w' := by
  have HT := Aside0.mk hT
  have H0 := Aside0.mk h0
  have H1 := Aside0.mk h1
  have hm := meth_leaf (s : Int)
  have hw : IntKind.u64.wrap (s : Int) = (s : Int) := by rw [IntKind.wrap_u64]; omega
  clear hT h0
  go_enter Tryd.func81, Tryd.ntmps81
  go_wp2_with (first
    | (go_at_call 134; go_must (refine (set_beasts _ _).mono ?_; rintro e w1 ⟨rfl, rfl⟩))
    | (go_at_call 86; go_must (refine (tz_calls s H0.out H1.out _ HT.out).mono ?_; rintro e w2 ⟨rfl, rfl⟩)))
  go_ret
  exact ⟨rfl, rfl⟩
set_option maxRecDepth 100000 in
set_option maxHeartbeats 800000 in
theorem first_node (s : Nat) (u : Value) (h0 : s ≠ 0) (h1 : s < 256) (w : World) (hT : TabAt w) : Calls Tryd.prog 81 #[.iface 111 (.agg #[.int .i64 (s : Int), u])] w fun e w' => e = .returned (.int .i64 (low s)) ∧ w = w' := by
  have HT := Aside0.mk hT
  have H0 := Aside0.mk h0
  have H1 := Aside0.mk h1
  have hm := meth_node (s : Int) u
  have hw : IntKind.u64.wrap (s : Int) = (s : Int) := by rw [IntKind.wrap_u64]; omega
  clear hT h0
  go_enter Tryd.func81, Tryd.ntmps81
  go_wp2_with (first
    | (go_at_call 134; go_must (refine (set_beasts _ _).mono ?_; rintro e w1 ⟨rfl, rfl⟩))
    | (go_at_call 86; go_must (refine (tz_calls s H0.out H1.out _ HT.out).mono ?_; rintro e w2 ⟨rfl, rfl⟩)))
  go_ret
  exact ⟨rfl, rfl⟩
theorem first_calls {t : BT} (hg : Small t) {v : Value} {w : World} (hv : TrV w ok v t) (hT : TabAt w) : Calls Tryd.prog 81 #[v] w fun e w' => e = .returned (.int .i64 (low t.set)) ∧ w = w' := by
  have h0 := hg.1
  have h1 := hg.2
  rcases hv.shape with ⟨i, rfl, rfl⟩ | ⟨ks, b, c, rfl, rfl, _⟩
  · rw [set_leaf] at h0 h1 ⊢
    exact first_leaf _ h0 h1 w hT
  · rw [set_node] at h0 h1 ⊢
    exact first_node _ _ h0 h1 w hT
set_option maxRecDepth 100000 in
set_option maxHeartbeats 800000 in
/-- The comparison by which parts are sorted. -/
theorem cmp_calls {t u : BT} (hg : Small t) (hgu : Small u) {v x : Value} {w : World} (hv : TrV w ok v t) (hx : TrV w ok' x u) (hT : TabAt w) : Calls Tryd.prog 80 #[v, x] w fun e w' => e = .returned (.int .i64 ((low t.set : Int) - (low u.set : Int))) ∧ w = w' := by
  have H1 : Aside0 (Calls Tryd.prog 81 #[v] w fun e w' => e = .returned (.int .i64 (low t.set)) ∧ w = w') := ⟨first_calls hg hv hT⟩
  have H2 : Aside0 (Calls Tryd.prog 81 #[x] w fun e w' => e = .returned (.int .i64 (low u.set)) ∧ w = w') := ⟨first_calls hgu hx hT⟩
  have a1 := low_le8 t.set
  have a2 := low_le8 u.set
  generalize low t.set = a at *
  generalize low u.set = b at *
  clear hv hx hT
  go_enter Tryd.func80, Tryd.ntmps80
  go_upto_region 1 with fail
  go_wp2_with (first
    | (go_at_call 81; refine H1.out.mono ?_; rintro e w1 ⟨rfl, rfl⟩; clear H1)
    | (go_at_call 81; refine H2.out.mono ?_; rintro e w1 ⟨rfl, rfl⟩; clear H2))
  go_ret
  exact ⟨rfl, rfl⟩
end Go.Proofs.YtdbbcngmnpejnaaDoor.A

/- Rows of trees: sorted by the least beasts; a family made of them. -/
namespace Go.Proofs.YtdbbcngmnpejnaaDoor.A
open Go.RowKit Go.Proofs.YtdbbcngmnpejnaaDoorW.PrintWords Go.Proofs.YtdbbcngmnpejnaaDoorW.PrintMore Go.Sort Go.Lib
theorem info69 : (Tryd.prog.info? 69).map (fun i => (i.zero, i.size, i.bytes)) = some (some .nilIface, 1, 16) := by kernel_rfl
/-- A tree's value, told apart by its shape. -/
inductive TV where
  | lf (s : Int) : TV
  | nd (s : Int) (b n c : Nat) : TV
def encV : TV → Value
  | .lf s => .iface 102 (.agg #[.int .i64 s])
  | .nd s b n c => .iface 111 (.agg #[.int .i64 s, .slice (some ⟨b, 0, none⟩) n c])
abbrev TT := TV × BT
instance : Inhabited TT := ⟨(.lf 0, .leaf 0)⟩
def encT (x : TT) : Value := encV x.1
theorem encT_one (x : TT) : (encT x).oneCell' = true := by obtain ⟨x, _⟩ := x; cases x <;> rfl
def kT : Kd TT := Kd.scalar encT encT_one
theorem TrV.tok {W : World} {ok : Nat → Prop} {v : Value} {t : BT} (h : TrV W ok v t) : ∃ x : TT, x.2 = t ∧ encT x = v := by
  rcases h.shape with ⟨i, rfl, rfl⟩ | ⟨ks, b, c, rfl, rfl, _⟩
  · exact ⟨(.lf _, .leaf i), rfl, rfl⟩
  · exact ⟨(.nd _ b _ c, .node ks), rfl, rfl⟩
/-- A tree that is held by its value. -/
def TOk (W : World) (ok : Nat → Prop) (x : TT) : Prop := TrV W ok (encT x) x.2 ∧ Small x.2
theorem TOk.move {W W' : World} {ok ok' : Nat → Prop} {x : TT} (h : TOk W ok x) (hs : W.heap.size ≤ W'.heap.size) (hb : ∀ b, ok b → b < W.heap.size → W'.heap[b]? = W.heap[b]?) (hk : ∀ b, ok b → b < W.heap.size → ok' b) : TOk W' ok' x := ⟨h.1.move hs hb hk, h.2⟩
theorem TOk.below {W W' : World} {ok : Nat → Prop} {x : TT} (h : TOk W ok x) (hb : Below W.heap.size W W') : TOk W' ok x := ⟨h.1.below hb, h.2⟩

theorem cells_of_R {α : Type} {enc : α → Value} {h1 : ∀ x, (enc x).oneCell' = true} {e : Nat} {W : World} {base g n cap : Nat} {ok : Nat → Prop} {xs : List α} (h : (Kd.scalar enc h1).R e W base ok (.slice (some ⟨g, 0, none⟩) n cap) xs) :
    ∃ cur : Array Value, W.heap[g]? = some (.cells cur e (0, 0)) ∧ base ≤ g ∧ xs.length ≤ cap ∧ cap ≤ maxLen ∧ cur.size = cap ∧ cur.toList.take xs.length = xs.map enc := by
  rcases (Kd.own_of_R h).2 with ⟨h0, _⟩ | ⟨g', cap', cur, hv, hg, hb, h1, h2, h3, h4⟩
  · cases h0
  · cases hv
    exact ⟨cur, hb, hg, h1, h2, by simpa using h3, by simpa [encs] using h4⟩

/-! ### a row's cells put anew -/
section
variable {α : Type} [Inhabited α] {enc : α → Value}
theorem holds_of_row {w : World} {g : Nat} {cur : Array Value} {e : TypeId} {ss : List α} (hb : w.heap[g]? = some (.cells cur e (0, 0))) (ht : cur.toList.take ss.length = ss.map enc) : Holds enc w g 0 ss.toArray := by
  intro j hj
  have hj' : j < ss.length := by simpa using hj
  refine ⟨?_, by simp [World.frozen?, hb]⟩
  have h1 : (cur.toList.take ss.length)[j]? = (ss.map enc)[j]? := by rw [ht]
  rw [List.getElem?_take_of_lt hj'] at h1
  simp only [World.cell?, hb, Nat.zero_add]
  simp only [Option.isSome_none, Bool.false_eq_true, if_false]
  rw [← Array.getElem?_toList, h1]
  simp [hj']
theorem heap_sortedR {w : World} {g n : Nat} {os : Array Obj} {cur : Array Value} {e : TypeId} {fr : Nat × Nat} (d : Array α) (hb : w.heap[g]? = some (.cells cur e fr)) :
    (sortWorld enc w g 0 n d os).heap[g]? = some (.cells (putCells enc 0 d cur) e fr) := by
  have hg : g < w.heap.size := (Array.getElem?_eq_some_iff.1 hb).1
  unfold sortWorld
  rw [heap_grow_old _ _ (by simpa using hg)]
  simp [putRow, mapBlock, Sort.ahead, Array.getElem?_modify, hb, onCells]
theorem grownBy_sortedR {w : World} {g n : Nat} {os : Array Obj} (d : Array α) : w.grownBy (sortWorld enc w g 0 n d os) (some g) := by
  unfold sortWorld
  refine ⟨rfl, rfl, rfl, by simp, fun k hk hne => ?_⟩
  rw [heap_grow_old _ _ (by simpa using hk)]
  have : g ≠ k := fun e => hne (by rw [e])
  simp [putRow, mapBlock, Sort.ahead, Array.getElem?_modify, this]
theorem take_putCellsR (cur : Array Value) (ts : List α) (h : ts.length ≤ cur.size) : (putCells enc 0 ts.toArray cur).toList.take ts.length = ts.map enc := by
  apply List.ext_getElem?
  intro j
  by_cases hj : j < ts.length
  · rw [List.getElem?_take_of_lt hj, Array.getElem?_toList]
    simp [putCells, hj, show j < cur.size by omega]
  · rw [List.getElem?_take_eq_none (by omega), List.getElem?_eq_none (by simp; omega)]
end
/-! ### the order of trees -/
theorem low_swo {α : Type} (key : α → Nat) : SWO (ltOf fun x y : α => (key x : Int) - (key y : Int)) where
  irrefl x := decide_eq_false (by show ¬ (key x : Int) - (key x : Int) < 0; omega)
  trans x y z h1 h2 := by
    unfold ltOf at *
    dsimp only at *
    rw [decide_eq_true_iff] at *
    omega
  ntrans x y z h1 h2 := by
    unfold ltOf at *
    dsimp only at *
    rw [decide_eq_false_iff_not] at *
    omega
theorem enters80 : ∀ args w, (callFunc 80 args).run Tryd.prog w = .ok (.enter 80 args) w := enters_of Tryd.func80 (by kernel_rfl) rfl
/-- slices.SortFunc by the least beasts. -/
theorem sortT_any {g cap n base : Nat} {xs : List TT} {w : World} (h : kT.R 69 w base (fun _ => True) (.slice (some ⟨g, 0, none⟩) n cap) xs) (hn : n = xs.length) (hok : ∀ x ∈ xs, TOk w (fun b => b ≠ g) x) (hT : TabAt w) (hg1 : g ≠ 1) (hl : xs.length ≤ 1000000) (h0 : 0 < xs.length) :
    Calls Tryd.prog 79 #[.slice (some ⟨g, 0, none⟩) n cap, .func (.func 80) #[] #[]] w fun e w' => e = .returned (.tuple #[]) ∧ ∃ ys : List TT, ys.Perm xs ∧ ys.Pairwise (fun x y => low x.2.set ≤ low y.2.set) ∧ kT.R 69 w' base (fun _ => True) (.slice (some ⟨g, 0, none⟩) n cap) ys ∧ w.grownBy w' (some g) := by
  subst hn
  obtain ⟨cur, hb, hbase, h1, h2, h3, h4⟩ := cells_of_R h
  have hlt : g < w.heap.size := blk_lt hb
  obtain ⟨x0, hx0⟩ : ∃ x0, x0 ∈ xs := ⟨_, List.getElem_mem h0⟩
  let α := { x : TT // x ∈ xs }
  let enc : α → Value := fun x => encT x.1
  haveI : Inhabited α := ⟨⟨x0, hx0⟩⟩
  obtain ⟨d, hd⟩ : ∃ d : List α, d.map (·.1) = xs := ⟨xs.attach, List.attach_map_subtype_val xs⟩
  have hdl : d.length = xs.length := by rw [← hd, List.length_map]
  have hmap : d.map enc = xs.map encT := by rw [← hd, List.map_map]; rfl
  have hH : Holds enc w g 0 d.toArray := holds_of_row hb (by rw [hdl, h4, hmap])
  have hcmp : CmpReads Tryd.prog 80 #[] enc (fun x y : α => (low x.1.2.set : Int) - (low y.1.2.set : Int)) g 0 d.toArray.size w := fun m os dk _ x y => by
    have hgr : w.grownBy (sortWorld enc w g 0 m dk os) (some g) := grownBy_sortedR dk
    have hmv : ∀ x : α, TOk (sortWorld enc w g 0 m dk os) (fun b => b ≠ g) x.1 := fun x =>
      (hok x.1 x.2).move hgr.size (fun b hb2 hl2 => hgr.block b hl2 (fun e => hb2 (by cases e; rfl))) fun _ h _ => h
    have hT2 : TabAt (sortWorld enc w g 0 m dk os) := fun j hj => by
      have h1' := hT j hj
      have hl1 : 1 < w.heap.size := World.block_lt_of_cell? w _ h1'
      exact (World.cell?_of_block (hgr.block 1 hl1 (fun e => hg1 (by cases e; rfl)))).trans h1'
    exact (cmp_calls (hmv x).2 (hmv y).2 (hmv x).1 (hmv y).1 hT2).mono fun e w' ⟨he, hw⟩ => ⟨he, 0, by rw [← hw]; rfl⟩
  have hcon := Tryd.slices_SortFunc enc (fun x => encT_one x.1) (fun x y : α => (low x.1.2.set : Int) - (low y.1.2.set : Int)) (low_swo fun x : α => low x.1.2.set) 80 #[] g 0 cap d.toArray w enters80 hcmp.lays hH hlt (by simp; omega)
  have hsz : d.toArray.size = xs.length := by simp [hdl]
  rw [hsz] at hcon
  refine hcon.mono ?_
  rintro e w' ⟨rfl, d', n, os, hp, hs, rfl⟩
  refine ⟨rfl, d'.toList.map (·.1), ?_, ?_, ?_, grownBy_sortedR d'⟩
  · have hp2 := hp.2.2
    have e1 : d'.extract 0 xs.length = d' := by rw [← hsz, ← hp.1]; simp
    have e2 : d.toArray.extract 0 xs.length = d.toArray := by rw [← hsz]; simp
    rw [e1, e2] at hp2
    have := hp2.map (fun x : α => x.1)
    rw [List.toList_toArray, hd] at this
    exact this
  · rw [List.pairwise_map, List.pairwise_iff_getElem]
    intro i j hi hj hij
    have hjs : j < xs.length := by rw [← hsz, ← hp.1]; simpa using hj
    have := hs i j (Nat.zero_le _) hij hjs
    rw [getElem!_pos d' i (by simpa using hi), getElem!_pos d' j (by simpa using hj)] at this
    unfold ltOf at this
    dsimp only at this
    rw [decide_eq_false_iff_not] at this
    simp only [Array.getElem_toList]
    omega
  · have hd'l : d'.toList.length = xs.length := by rw [Array.length_toList, hp.1, hsz]
    have hml : (d'.toList.map fun x : α => x.1).length = xs.length := by rw [List.length_map, hd'l]
    rw [← hml]
    refine Kd.R_of_own ?_ (fun _ _ => trivial)
    rw [hml]
    refine ⟨by simp [encs, hd'l], .inr ⟨g, cap, _, rfl, hbase, heap_sortedR d' hb, h1, h2, by simp [putCells, h3], ?_⟩⟩
    have := take_putCellsR (enc := enc) cur d'.toList (by rw [hd'l, h3]; exact h1)
    rw [hd'l] at this
    rw [Nat.mul_one]
    show (putCells enc 0 d' cur).toList.take xs.length = encs encT (d'.toList.map fun x : α => x.1)
    rw [Array.toArray_toList] at this
    rw [this, encs, List.map_map]
    rfl

/-! ### of: the tree of some trees -/
theorem sets_append : ∀ (a b : List BT), BT.sets (a ++ b) = BT.sets a ||| BT.sets b
  | [], b => by rw [List.nil_append, BT.sets, Nat.zero_or]
  | x :: a, b => by rw [List.cons_append, BT.sets, BT.sets, sets_append a b, Nat.or_assoc]
theorem sets_take {ts : List BT} {k : Nat} (h : k < ts.length) : BT.sets (ts.take (k + 1)) = BT.sets (ts.take k) ||| (ts.getD k default).set := by
  rw [List.take_add_one, sets_append, List.getElem?_eq_getElem h, List.getD_eq_getElem?_getD, List.getElem?_eq_getElem h]
  show _ ||| (_ ||| 0) = _
  rw [Nat.or_zero]
  rfl
set_option maxRecDepth 100000 in
set_option maxHeartbeats 1600000 in
theorem of_one {g cap base : Nat} {x : TT} {w : World} (h : kT.R 69 w base (fun _ => True) (.slice (some ⟨g, 0, none⟩) 1 cap) [x]) :
    Calls Tryd.prog 70 #[.slice (some ⟨g, 0, none⟩) 1 cap] w fun e w' => e = .returned (encT x) ∧ w' = w := by
  have hC := (Kd.R_reads' h).2.2
  obtain ⟨ad, had, hx0⟩ := ReadsOf.at_ (Kd.reads_of_C (d := default) hC) 0 (by decide) (by simp)
  cases had
  have hx : w.cell? ⟨g, 0, none⟩ = some (encT x) := hx0
  clear hx0 hC h
  generalize encT x = v at *
  go_enter Tryd.func70, Tryd.ntmps70
  go_wp2
  go_ret
  exact ⟨rfl, rfl⟩
/-- What a tree's value answers when it is asked for its beasts. -/
theorem TrV.ask {W : World} {ok : Nat → Prop} {v : Value} {t : BT} (h : TrV W ok v t) : ∃ (T : TypeId) (u : Value), v = .iface T u ∧ ∀ w : World, (method 289 T u "droveway/breed.beasts").run Tryd.prog w = .ok (134, .int .i64 ((t.set : Nat) : Int)) w := by
  rcases h.shape with ⟨i, rfl, rfl⟩ | ⟨ks, b, c, rfl, rfl, _⟩
  · exact ⟨_, _, rfl, fun w => by rw [set_leaf]; exact meth_leaf _ w⟩
  · exact ⟨_, _, rfl, fun w => by rw [set_node]; exact meth_node _ _ w⟩
/-- A family on its way: the sets of its first k trees are in it. -/
def FamSt (w1 : World) (g n cap : Nat) (ys : List TT) (k : Nat) (wr : World) : Prop :=
  wr.heap[w1.heap.size]? = some (.cells #[.int .i64 ((BT.sets ((ys.map (·.2)).take k) : Nat) : Int), .slice (some ⟨g, 0, none⟩) n cap] 111 (0, 0)) ∧ Below w1.heap.size w1 wr
theorem low_or {a b : Nat} (ha : a < 256) (hb : b < 256) : bits .or .i64 (a : Int) (b : Int) = ((a ||| b : Nat) : Int) := by
  exact or64 a b (by omega) (by omega)
theorem sets_lt {ts : List BT} (h : ∀ t ∈ ts, Small t) : BT.sets ts < 256 := lt_of_bits (k := 8) fun i hi => by
  obtain ⟨k, hk, hi⟩ := sets_bit.mp hi
  exact bit_lt (k := 8) (h k hk).2 hi
set_option maxRecDepth 100000 in
set_option maxHeartbeats 1600000 in
theorem of_many {g cap n base : Nat} {xs : List TT} {w : World} (h : kT.R 69 w base (fun _ => True) (.slice (some ⟨g, 0, none⟩) n cap) xs) (hn : n = xs.length) (hok : ∀ x ∈ xs, TOk w (fun b => b ≠ g) x) (hT : TabAt w) (hg1 : g ≠ 1) (hl : xs.length ≤ 1000) (h2 : 2 ≤ xs.length) :
    Calls Tryd.prog 70 #[.slice (some ⟨g, 0, none⟩) n cap] w fun e w' => ∃ ys : List TT, e = .returned (.iface 111 (.agg #[.int .i64 ((BT.sets (ys.map (·.2)) : Nat) : Int), .slice (some ⟨g, 0, none⟩) n cap])) ∧ ys.Perm xs ∧ ys.Pairwise (fun x y => low x.2.set ≤ low y.2.set) ∧ kT.R 69 w' base (fun _ => True) (.slice (some ⟨g, 0, none⟩) n cap) ys ∧ w.grownBy w' (some g) := by
  have HS := Aside0.mk (sortT_any h hn hok hT hg1 (by omega) (by omega))
  have HOK := Aside0.mk hok
  have hn1 : ((n : Int) == 1) = false := by rw [beq_eq_false_iff_ne]; omega
  have hn2 : 2 ≤ n := by omega
  have hn8 : n ≤ 1000 := by omega
  have HN := Aside0.mk hn
  clear h hok hT hn h2 hl
  go_enter Tryd.func70, Tryd.ntmps70
  go_upto_region 4 with (go_at_call 79; go_must (refine HS.out.mono ?_; rintro e w1 ⟨rfl, ys, hp, hs, hR, hg⟩; have HP := Aside0.mk hp; have HSS := Aside0.mk hs; have HR := Aside0.mk hR; have HG := Aside0.mk hg; clear hp hs hR hg))
  go_upto_region 5 with fail
  go_wp2
  have HF0 : Aside0 (FamSt w1 g n cap ys 0 (w1.alloc (.cells #[.int .i64 0, .slice (some ⟨g, 0, none⟩) n cap] 111))) := ⟨⟨by
    have := heap_alloc_new w1 (.cells #[.int .i64 0, .slice (some ⟨g, 0, none⟩) n cap] 111)
    rw [List.take_zero]
    exact this, (Below.refl _ _).alloc (Nat.le_refl _) _⟩⟩
  generalize w1.alloc (.cells #[.int .i64 0, .slice (some ⟨g, 0, none⟩) n cap] 111) = W2 at HF0 ⊢
  have hyn : ys.length = n := by rw [HP.out.length_eq, ← HN.out]
  have HY := Aside0.mk hyn
  clear hyn
  go_loopg [5, 18] n (fun gg _ v18 wr => ∃ k : Nat, k ≤ n ∧ n - k ≤ gg ∧ v18 = .int .i64 k ∧ Aside0 (FamSt w1 g n cap ys k wr))
  case atStart => exact ⟨0, Nat.zero_le _, by omega, rfl, HF0⟩
  case round =>
    clear HF0
    obtain ⟨k, hk, hgg, rfl, HF⟩ := hrel
    by_cases hkn : k < n
    · have hkz : (k : Int) < (n : Int) := by omega
      have hky : k < ys.length := by rw [HY.out]; exact hkn
      have hC := (Kd.R_reads' HR.out).2.2
      obtain ⟨ad, had, hx0⟩ := ReadsOf.at_ (Kd.reads_of_C (d := default) hC) (k : Int) (by omega) (by rw [HY.out]; omega)
      cases had
      rw [Int.toNat_natCast] at hx0
      have hrd : rdOf default ys (k : Int) = ys.getD k default := by simp [rdOf]
      rw [hrd] at hx0
      have hm : ys.getD k default ∈ ys := getD_mem default hky
      have hTO := HOK.out _ (HP.out.mem_iff.mp hm)
      have HSTEP : Aside0 (BT.sets ((ys.map (·.2)).take (k + 1)) = BT.sets ((ys.map (·.2)).take k) ||| (ys.getD k default).2.set) := ⟨by
        rw [sets_take (by rw [List.length_map]; exact hky)]
        congr 2
        rw [List.getD_eq_getElem?_getD, List.getD_eq_getElem?_getD, List.getElem?_map, List.getElem?_eq_getElem hky]
        rfl⟩
      have HSL : Aside0 (BT.sets ((ys.map (·.2)).take k) < 256) := ⟨sets_lt fun t ht => by
        obtain ⟨z, hz, rfl⟩ := List.mem_map.mp (List.mem_of_mem_take ht)
        exact (HOK.out _ (HP.out.mem_iff.mp hz)).2⟩
      clear hC hrd hm
      generalize ys.getD k default = y at hx0 hTO HSTEP
      obtain ⟨T, u, hv, hm⟩ := hTO.1.ask
      have hy8 := hTO.2.2
      have hor := low_or HSL.out hy8
      have hx1 : w1.cell? ⟨g, k, none⟩ = some (.iface T u) := by rw [← hv, ← hx0, YtdbbcngmnpejnaaDoorW.PrintWords.add_plain]
      have hglt : g < w1.heap.size := World.block_lt_of_cell? w1 _ hx1
      have hx : wr.cell? ⟨g, k, none⟩ = some (.iface T u) := (World.cell?_of_block (HF.out.2.block g hglt)).trans hx1
      clear hx0 hx1 hv hTO
      generalize hsy : ((y.2.set : Nat) : Int) = sy at hm hor
      go_wp2
      clear hx
      refine wp_region_noPanic ?_
      refine wp_region_held_drew (S := fun _ => True) (by kernel_rfl) trivial (fun hHeld => ?_)
      have hF1 : wr.drew.cell? ⟨w1.heap.size, 0, none⟩ = some (.int .i64 ((BT.sets ((ys.map (·.2)).take k) : Nat) : Int)) := (cells2 HF.out.1).1
      have hF2 : wr.drew.frozen? ⟨w1.heap.size, 0, none⟩ = false := (cells2 HF.out.1).2.2.1
      refine H_on 0 22 ?vo0 rfl rfl (by kernel_rfl) (by kernel_rfl) (by kernel_rfl) (by rfl) ?ho0 hHeld ?ro0
      case ho0 => (intro w hSw;  go_simp <;> with_reducible rfl)
      simp only [Act.put, List.setIfInBounds_toArray, List.set_cons_zero, List.set_cons_succ]
      refine H_on 2 24 ?vo2 rfl rfl (by kernel_rfl) (by kernel_rfl) (by kernel_rfl) (by rfl) ?ho2 hHeld ?ro2
      case ho2 => (intro w hSw;  go_simp <;> with_reducible rfl)
      simp only [Act.put, List.setIfInBounds_toArray, List.set_cons_zero, List.set_cons_succ]
      refine wpAnyH_ready (rs := [1, 3]) (by kernel_rfl) (by simp) ?_
      refine AllReadyH.cons rfl (fun K hK => ?_) (AllReadyH.cons rfl (fun K hK => ?_) AllReadyH.nil)
      · go_simp
        refine hK.out _ _ trivial (fun hHeld => ?_)
        clear hK K
        try simp only [Act.put, List.setIfInBounds_toArray, List.set_cons_zero, List.set_cons_succ]
        refine wpAnyH_ready (rs := [3]) (by kernel_rfl) (by simp) ?_
        refine AllReadyH.cons rfl (fun K hK => ?_) AllReadyH.nil
        go_simp
        refine (set_beasts _ _).mono ?_
        rintro e w5 ⟨rfl, rfl⟩
        go_wp2_with fail
        refine hK.out _ _ trivial (fun hHeld => ?_)
        clear hK K
        try simp only [Act.put, List.setIfInBounds_toArray, List.set_cons_zero, List.set_cons_succ]
        refine H_on 4 26 ?va4 rfl rfl (by kernel_rfl) (by kernel_rfl) (by kernel_rfl) (by rfl) ?ha4 hHeld ?ra4
        case ha4 => (intro w hSw;  go_simp <;> with_reducible rfl)
        simp only [Act.put, List.setIfInBounds_toArray, List.set_cons_zero, List.set_cons_succ]
        refine H_on 5 27 ?va5 rfl rfl (by kernel_rfl) (by kernel_rfl) (by kernel_rfl) (by rfl) ?ha5 hHeld ?ra5
        case ha5 => (intro w hSw;  go_simp <;> with_reducible rfl)
        simp only [Act.put, List.setIfInBounds_toArray, List.set_cons_zero, List.set_cons_succ]
        refine wpAnyH_ready (rs := [6]) (by kernel_rfl) (by simp) ?_
        refine AllReadyH.cons rfl (fun K hK => ?_) AllReadyH.nil
        go_simp
        refine hK _ _ trivial (fun hHeld => ?_)
        clear hK K
        try simp only [Act.put, List.setIfInBounds_toArray, List.set_cons_zero, List.set_cons_succ]
        refine wpAnyH_done (by kernel_rfl) ?_ _
        refine NoPanic.normal ?_
        have HN2 : Aside0 (FamSt w1 g n cap ys (k + 1) (wr.drew.setCell ⟨w1.heap.size, 0, none⟩ (.int .i64 ((BT.sets ((ys.map (·.2)).take k) ||| y.2.set : Nat) : Int)))) := ⟨⟨by rw [HSTEP.out]; exact blk_set HF.out.1 0 _, (below_drew HF.out.2).setCell (Nat.le_refl _) _⟩⟩
        clear hHeld
        rw [← hsy] at *
        rw [set_drew] at HN2
        generalize (wr.setCell ⟨w1.heap.size, 0, none⟩ (.int .i64 ((BT.sets ((ys.map (·.2)).take k) ||| y.2.set : Nat) : Int))).drew = w9 at HN2 ⊢
        go_wp2
        go_roundg (n - (k + 1))
        case measure => omega
        case rel => exact ⟨k + 1, by omega, by omega, by go_num, HN2⟩
      · go_simp
        refine (set_beasts _ _).mono ?_
        rintro e w5 ⟨rfl, rfl⟩
        go_wp2_with fail
        refine hK.out _ _ trivial (fun hHeld => ?_)
        clear hK K
        try simp only [Act.put, List.setIfInBounds_toArray, List.set_cons_zero, List.set_cons_succ]
        refine wpAnyH_ready (rs := [1]) (by kernel_rfl) (by simp) ?_
        refine AllReadyH.cons rfl (fun K hK => ?_) AllReadyH.nil
        go_simp
        refine hK.out _ _ trivial (fun hHeld => ?_)
        clear hK K
        try simp only [Act.put, List.setIfInBounds_toArray, List.set_cons_zero, List.set_cons_succ]
        refine H_on 4 26 ?vb4 rfl rfl (by kernel_rfl) (by kernel_rfl) (by kernel_rfl) (by rfl) ?hb4 hHeld ?rb4
        case hb4 => (intro w hSw;  go_simp <;> with_reducible rfl)
        simp only [Act.put, List.setIfInBounds_toArray, List.set_cons_zero, List.set_cons_succ]
        refine H_on 5 27 ?vb5 rfl rfl (by kernel_rfl) (by kernel_rfl) (by kernel_rfl) (by rfl) ?hb5 hHeld ?rb5
        case hb5 => (intro w hSw;  go_simp <;> with_reducible rfl)
        simp only [Act.put, List.setIfInBounds_toArray, List.set_cons_zero, List.set_cons_succ]
        refine wpAnyH_ready (rs := [6]) (by kernel_rfl) (by simp) ?_
        refine AllReadyH.cons rfl (fun K hK => ?_) AllReadyH.nil
        go_simp
        refine hK _ _ trivial (fun hHeld => ?_)
        clear hK K
        try simp only [Act.put, List.setIfInBounds_toArray, List.set_cons_zero, List.set_cons_succ]
        refine wpAnyH_done (by kernel_rfl) ?_ _
        refine NoPanic.normal ?_
        have HN2 : Aside0 (FamSt w1 g n cap ys (k + 1) (wr.drew.setCell ⟨w1.heap.size, 0, none⟩ (.int .i64 ((BT.sets ((ys.map (·.2)).take k) ||| y.2.set : Nat) : Int)))) := ⟨⟨by rw [HSTEP.out]; exact blk_set HF.out.1 0 _, (below_drew HF.out.2).setCell (Nat.le_refl _) _⟩⟩
        clear hHeld
        rw [← hsy] at *
        rw [set_drew] at HN2
        generalize (wr.setCell ⟨w1.heap.size, 0, none⟩ (.int .i64 ((BT.sets ((ys.map (·.2)).take k) ||| y.2.set : Nat) : Int))).drew = w9 at HN2 ⊢
        go_wp2
        go_roundg (n - (k + 1))
        case measure => omega
        case rel => exact ⟨k + 1, by omega, by omega, by go_num, HN2⟩
    · have hkz : ¬ (k : Int) < (n : Int) := by omega
      have hkn2 : k = n := by omega
      obtain ⟨c0, c1, _, _⟩ := cells2 HF.out.1
      go_wp2
      go_ret
      refine ⟨ys, ?_, HP.out, HSS.out, Kd.R_below HR.out HF.out.2, HG.out.trans ⟨HF.out.2.os, HF.out.2.tape, HF.out.2.output, HF.out.2.size, fun j hj _ => HF.out.2.block j hj⟩⟩
      rw [List.take_of_length_le (by rw [List.length_map, HY.out]; exact Nat.le_refl _)]
      rfl
end Go.Proofs.YtdbbcngmnpejnaaDoor.A

/- The least part of a tree that has some beasts. -/
namespace Go.Proofs.YtdbbcngmnpejnaaDoor.A
open Go.RowKit Go.Proofs.YtdbbcngmnpejnaaDoorW.PrintWords Go.Proofs.YtdbbcngmnpejnaaDoorW.PrintMore
/-- What is in a and not in b. -/
def diffN (a b : Nat) : Nat := a ^^^ (a &&& b)
theorem diff_bit (a b i : Nat) : (diffN a b).testBit i = (a.testBit i && !b.testBit i) := by
  unfold diffN
  rw [Nat.testBit_xor, Nat.testBit_and]
  cases a.testBit i <;> cases b.testBit i <;> rfl
theorem diff_le (a b : Nat) {k : Nat} (h : a < 2 ^ k) : diffN a b < 2 ^ k := lt_of_bits fun i hi => by
  rw [diff_bit, Bool.and_eq_true] at hi
  exact bit_lt h hi.1
theorem andNot64 (a b : Nat) (ha : a < 2 ^ 62) (_hb : b < 2 ^ 62) : bits .andNot .i64 (a : Int) (b : Int) = ((diffN a b : Nat) : Int) := by
  have h1 : (BitVec.ofInt 64 (a : Int) &&& ~~~BitVec.ofInt 64 (b : Int)).toNat = diffN a b := by
    refine Nat.eq_of_testBit_eq fun i => ?_
    rw [diff_bit, BitVec.testBit_toNat, BitVec.getLsbD_and, BitVec.getLsbD_not, BitVec.ofInt_natCast, BitVec.ofInt_natCast, BitVec.getLsbD_ofNat, BitVec.getLsbD_ofNat]
    by_cases hi : i < 64
    · simp [hi]
    · have : a.testBit i = false := Nat.testBit_lt_two_pow (Nat.lt_of_lt_of_le ha (Nat.pow_le_pow_right (by decide) (by omega)))
      simp [hi, this]
  show IntKind.i64.wrap ((BitVec.ofInt 64 (a : Int) &&& ~~~BitVec.ofInt 64 (b : Int)).toNat : Int) = _
  rw [h1]
  have := diff_le a b ha
  exact wrap64_nat _ (by omega) (by omega)
theorem diff_zero {a b : Nat} : diffN a b = 0 ↔ hasB a b = true := by
  rw [has_iff]
  constructor
  · intro h i hi
    have := congrArg (fun x => x.testBit i) h
    simp only [diff_bit, Nat.zero_testBit, hi, Bool.true_and] at this
    cases e : b.testBit i with
    | true => rfl
    | false => rw [e] at this; cases this
  · intro h
    refine Nat.eq_of_testBit_eq fun i => ?_
    rw [diff_bit, Nat.zero_testBit]
    cases e : a.testBit i with
    | false => rfl
    | true => rw [h i e]; rfl

theorem asc_len {m : Nat} : ∀ (l : List Nat) (a : Nat), l.Pairwise (· < ·) → (∀ x ∈ l, a ≤ x ∧ x < m) → a ≤ m → l.length ≤ m - a
  | [], _, _, _, _ => Nat.zero_le _
  | x :: l, a, hp, hb, ha => by
    rw [List.pairwise_cons] at hp
    have h1 := hb x List.mem_cons_self
    have h2 := asc_len l (x + 1) hp.2 (fun y hy => ⟨hp.1 y hy, (hb y (List.mem_cons_of_mem _ hy)).2⟩) h1.2
    rw [List.length_cons]
    omega
/-- A family has at most eight parts. -/
theorem kids_le {ks : List BT} (hg : (BT.node ks).Good) : ks.length ≤ 8 := by
  obtain ⟨_, h1, h2⟩ := good_node.mp hg
  have h := asc_len (m := 8) (ks.map fun k => low k.set) 0 (by rw [List.pairwise_map]; exact h2.imp fun h => h.2) (fun x hx => by
    obtain ⟨k, hk, rfl⟩ := List.mem_map.mp hx
    exact ⟨Nat.zero_le _, low_lt (good_ne (h1 k hk)) (good_256 (h1 k hk))⟩) (by decide)
  rwa [List.length_map] at h
theorem ta_node (s : Int) (u : Value) (w : World) : (Instr.typeAssert (.iface 111 (.agg #[.int .i64 s, u])) 69 111 true).run Tryd.prog w = .ok (.tuple #[.agg #[.int .i64 s, u], .bool true]) w := by kernel_rfl
theorem ta_leaf (s : Int) (w : World) : (Instr.typeAssert (.iface 102 (.agg #[.int .i64 s])) 69 111 true).run Tryd.prog w = .ok (.tuple #[.agg #[.int .i64 0, .slice none 0 0], .bool false]) w := by kernel_rfl
theorem commons_drop {b s : Nat} {ks : List BT} {k : Nat} (h : k < ks.length) : BT.commons b s (ks.drop k) = if hasB b (ks.getD k default).set = true then BT.common b (ks.getD k default) else BT.commons b s (ks.drop (k + 1)) := by
  rw [List.drop_eq_getElem_cons h, BT.commons, List.getD_eq_getElem?_getD, List.getElem?_eq_getElem h]
  rfl

def ComC (b : Nat) (t : BT) : Prop := t.Good → ∀ (ok : Nat → Prop) (v : Value) (W : World), TrV W ok v t → Calls Tryd.prog 69 #[v, .int .i64 (b : Int)] W fun e w' => e = .returned (.int .i64 ((BT.common b t : Nat) : Int)) ∧ Below W.heap.size W w'
set_option maxRecDepth 100000 in
set_option maxHeartbeats 1600000 in
theorem common_leafC (b i : Nat) (W : World) : Calls Tryd.prog 69 #[.iface 102 (.agg #[.int .i64 ((2 ^ i : Nat) : Int)]), .int .i64 (b : Int)] W fun e w' => e = .returned (.int .i64 ((2 ^ i : Nat) : Int)) ∧ Below W.heap.size W w' := by
  have hm := meth_leaf ((2 ^ i : Nat) : Int)
  have ht := ta_leaf ((2 ^ i : Nat) : Int)
  generalize ((2 ^ i : Nat) : Int) = s at *
  go_enter Tryd.func69, Tryd.ntmps69
  go_wp2_with (go_at_call 134; go_must (refine (set_beasts _ _).mono ?_; rintro e w1 ⟨rfl, rfl⟩))
  go_ret
  exact ⟨rfl, Below.refl _ _⟩
set_option maxRecDepth 100000 in
set_option maxHeartbeats 1600000 in
theorem common_nodeC (b : Nat) (hb : b < 256) (ks : List BT) (IH : ∀ k ∈ ks, ComC b k) (hg : (BT.node ks).Good) (ok : Nat → Prop) (v : Value) (W : World) (hv : TrV W ok v (.node ks)) :
    Calls Tryd.prog 69 #[v, .int .i64 (b : Int)] W fun e w' => e = .returned (.int .i64 ((BT.common b (.node ks) : Nat) : Int)) ∧ Below W.heap.size W w' := by
  obtain ⟨g, c, rfl, hc, hgl, hk⟩ := trv_node.mp hv
  obtain ⟨h2, hks, hpw⟩ := good_node.mp hg
  obtain ⟨Z, hZ⟩ : ∃ Z, BT.common b (.node ks) = Z := ⟨_, rfl⟩
  have HZ : Aside0 (BT.commons b (BT.sets ks) ks = Z) := ⟨by rw [← hZ, BT.common]⟩
  rw [hZ]
  have HG := Aside0.mk hks
  have HK := Aside0.mk hk
  have HIH := Aside0.mk IH
  have hml := kids_le hg
  obtain ⟨n, hn⟩ : ∃ n, ks.length = n := ⟨_, rfl⟩
  obtain ⟨s, hs⟩ : ∃ s, BT.sets ks = s := ⟨_, rfl⟩
  have HS := Aside0.mk hs
  have HN := Aside0.mk hn
  have hm := fun w => meth_node ((s : Nat) : Int) (.slice (some ⟨g, 0, none⟩) n c) w
  have ht := fun w => ta_node ((s : Nat) : Int) (.slice (some ⟨g, 0, none⟩) n c) w
  rw [hs, hn]
  rw [hn] at hml
  have hgl2 := hgl.2
  clear hv hk hks hg IH hpw hZ h2 hc hs hn hgl
  go_enter Tryd.func69, Tryd.ntmps69
  go_upto_region 4 with fail
  clear ht
  obtain ⟨fb, hfb⟩ : ∃ fb, fb = W.heap.size := ⟨_, rfl⟩
  go_wp2
  have HB0 : Aside0 (Below W.heap.size W (W.alloc (.cells #[.int .i64 (s : Int), .slice (some ⟨g, 0, none⟩) n c] 111))) := ⟨(Below.refl _ _).alloc (Nat.le_refl _) _⟩
  generalize W.alloc (.cells #[.int .i64 (s : Int), .slice (some ⟨g, 0, none⟩) n c] 111) = W2 at HB0 ⊢
  go_loopg [7, 15] n (fun gg _ v15 wr => ∃ k : Nat, k ≤ n ∧ n - k ≤ gg ∧ v15 = .int .i64 k ∧ Aside0 (BT.commons b s (ks.drop k) = Z) ∧ Aside0 (Below W.heap.size W wr))
  case atStart => exact ⟨0, Nat.zero_le _, by omega, rfl, ⟨by rw [List.drop_zero, ← HS.out]; exact HZ.out⟩, HB0⟩
  case round =>
    clear HB0 HZ
    obtain ⟨k, hk, hgg, rfl, HZ, HB⟩ := hrel
    by_cases hkn : k < n
    · have hkz : (k : Int) < (n : Int) := by omega
      have hky : k < ks.length := by rw [HN.out]; exact hkn
      obtain ⟨v, hc1, htv⟩ := HK.out k (ks.getD k default) (by rw [List.getD_eq_getElem?_getD, List.getElem?_eq_getElem hky]; rfl)
      have hm1 : ks.getD k default ∈ ks := getD_mem default hky
      have HGK := Aside0.mk (HG.out _ hm1)
      have HIK := Aside0.mk (HIH.out _ hm1)
      have HZ1 := Aside0.mk ((commons_drop (b := b) (s := s) hky).symm.trans HZ.out)
      clear HZ hm1
      generalize ks.getD k default = y at htv HGK HIK HZ1
      obtain ⟨T, u, rfl, hmt⟩ := htv.ask
      have HT := Aside0.mk htv
      have hy8 := good_256 HGK.out
      have han := andNot64 b y.set (by omega) (by omega)
      have hx : wr.cell? ⟨g, k, none⟩ = some (.iface T u) := (World.cell?_of_block (HB.out.block g hgl2)).trans hc1
      clear hc1 htv hm
      generalize hsy : ((y.set : Nat) : Int) = sy at hmt han
      cases hh : hasB b y.set with
      | true =>
        have hd : diffN b y.set = 0 := diff_zero.mpr hh
        rw [hd] at han
        have HZ2 : Aside0 (BT.common b y = Z) := ⟨by have := HZ1.out; rwa [if_pos hh] at this⟩
        have HC : Aside0 (Calls Tryd.prog 69 #[.iface T u, .int .i64 (b : Int)] wr fun e w' => e = .returned (.int .i64 ((Z : Nat) : Int)) ∧ Below wr.heap.size wr w') := ⟨by rw [← HZ2.out]; exact HIK.out HGK.out ok _ wr (HT.out.below HB.out)⟩
        clear hh hd
        go_upto_region 9 with (first
          | (go_at_call 134; go_must (refine (set_beasts _ _).mono ?_; rintro e w5 ⟨rfl, rfl⟩))
          | (go_at_call 69; go_must (refine HC.out.mono ?_; rintro e w5 ⟨rfl, hb5⟩; have HB5 := Aside0.mk (below_then HB.out HB.out.size hb5); clear hb5)))
        go_ret
        exact ⟨rfl, HB5.out⟩
      | false =>
        have hd : ((diffN b y.set : Nat) : Int) ≠ 0 := fun e => by rw [diff_zero.mp (by omega)] at hh; cases hh
        have HZ2 : Aside0 (BT.commons b s (ks.drop (k + 1)) = Z) := ⟨by have := HZ1.out; rwa [if_neg (by rw [hh]; exact Bool.false_ne_true)] at this⟩
        have hd2 : (((diffN b y.set : Nat) : Int) == 0) = false := by rw [beq_eq_false_iff_ne]; exact hd
        clear hh hd
        generalize ((diffN b y.set : Nat) : Int) = dd at han hd2
        go_wp2_with (go_at_call 134; go_must (refine (set_beasts _ _).mono ?_; rintro e w5 ⟨rfl, rfl⟩))
        go_roundg (n - (k + 1))
        case measure => omega
        case rel => exact ⟨k + 1, by omega, by omega, by go_num, HZ2, HB⟩
    · have hkz : ¬ (k : Int) < (n : Int) := by omega
      have hkn2 : k = n := by omega
      have HZ2 : Aside0 (s = Z) := ⟨by have := HZ.out; rwa [List.drop_of_length_le (by rw [HN.out]; omega), BT.commons] at this⟩
      go_wp2_with (go_at_call 134; go_must (refine (set_beasts _ _).mono ?_; rintro e w5 ⟨rfl, rfl⟩))
      go_ret
      exact ⟨by rw [← HZ2.out]; rfl, HB.out⟩
/-- The least part of a tree that has some beasts. -/
theorem common_calls (b : Nat) (hb : b < 256) (t : BT) : ComC b t := by
  refine BT.ind (P := ComC b) (fun i _ ok v W hv => ?_) (fun ks ih hg ok v W hv => common_nodeC b hb ks ih hg ok v W hv) t
  rw [trv_leaf.mp hv, common_leaf]
  exact common_leafC b i W
end Go.Proofs.YtdbbcngmnpejnaaDoor.A

/- A tree's text. -/
namespace Go.Proofs.YtdbbcngmnpejnaaDoor.A
open Go.RowKit Go.Proofs.YtdbbcngmnpejnaaDoorW.PrintWords Go.Proofs.YtdbbcngmnpejnaaDoorW.PrintMore
/-! ### plain -/
mutual
def BT.text : BT → List UInt8
  | .leaf i => [UInt8.ofNat (48 + i)]
  | .node ks => 40 :: (Lib.join (BT.texts ks) [44] ++ [41])
def BT.texts : List BT → List (List UInt8)
  | [] => []
  | k :: ks => k.text :: BT.texts ks
end
theorem texts_map : ∀ ks : List BT, BT.texts ks = ks.map BT.text
  | [] => by rw [BT.texts]; rfl
  | k :: ks => by rw [BT.texts, texts_map ks]; rfl
/-- How many beasts a set has. -/
def pcN (s : Nat) : Nat → Nat
  | 0 => 0
  | m + 1 => pcN s m + (if s.testBit m = true then 1 else 0)
theorem pcN_le (s : Nat) : ∀ m, pcN s m ≤ m
  | 0 => Nat.le_refl _
  | m + 1 => by have := pcN_le s m; rw [pcN]; split <;> omega
theorem pcN_or {a b : Nat} (h : a &&& b = 0) : ∀ m, pcN (a ||| b) m = pcN a m + pcN b m
  | 0 => rfl
  | m + 1 => by
    rw [pcN, pcN, pcN, pcN_or h m, Nat.testBit_or]
    have := disj_iff.mp h m
    cases ha : a.testBit m with
    | false => cases b.testBit m <;> simp <;> omega
    | true => rw [this ha]; simp; omega
theorem pcN_pos {s : Nat} : ∀ m i, i < m → s.testBit i = true → 1 ≤ pcN s m
  | 0, i, h, _ => absurd h (Nat.not_lt_zero _)
  | m + 1, i, h, hi => by
    rw [pcN]
    by_cases e : i = m
    · subst e; rw [if_pos hi]; omega
    · have := pcN_pos m i (by omega) hi; omega
theorem join_len (sep : List UInt8) : ∀ (x : List UInt8) (xs : List (List UInt8)), (Lib.join (x :: xs) sep).length = x.length + ((xs.map fun y => sep.length + y.length).sum)
  | x, [] => by simp [Lib.join]
  | x, y :: ys => by
    have := join_len sep y ys
    have e : Lib.join (x :: y :: ys) sep = x ++ sep ++ Lib.join (y :: ys) sep := by simp [Lib.join, List.intercalate_cons_cons]
    rw [e, List.length_append, List.length_append, this]
    simp
    omega
theorem sets_disj {k : BT} {ks : List BT} (h : ∀ x ∈ ks, k.set &&& x.set = 0) : k.set &&& BT.sets ks = 0 := disj_iff.mpr fun i hi => by
  cases e : (BT.sets ks).testBit i with
  | false => rfl
  | true =>
    obtain ⟨x, hx, hxi⟩ := sets_bit.mp e
    rw [disj_iff.mp (h x hx) i hi] at hxi; cases hxi
theorem texts_len : ∀ {ks : List BT}, (∀ k ∈ ks, k.text.length + 3 ≤ 4 * pcN k.set 8) → (ks.Pairwise fun a b => a.set &&& b.set = 0) → ((ks.map BT.text).map fun y => 1 + y.length).sum + 2 * ks.length ≤ 4 * pcN (BT.sets ks) 8
  | [], _, _ => by simp
  | k :: ks, h, hp => by
    rw [List.pairwise_cons] at hp
    have h1 := texts_len (fun x hx => h x (List.mem_cons_of_mem _ hx)) hp.2
    have h2 := h k List.mem_cons_self
    rw [BT.sets, pcN_or (sets_disj hp.1)]
    simp only [List.map_cons, List.sum_cons, List.length_cons]
    omega
theorem text_len {t : BT} : t.Good → t.text.length + 3 ≤ 4 * pcN t.set 8 := by
  refine BT.ind (P := fun t => t.Good → t.text.length + 3 ≤ 4 * pcN t.set 8) (fun i h => ?_) (fun ks ih h => ?_) t
  · rw [BT.Good] at h
    have := pcN_pos (s := 2 ^ i) 8 i h (by rw [two_bit, decide_eq_true_iff])
    rw [BT.text, set_leaf]
    simp
    omega
  · obtain ⟨h1, h2, h3⟩ := good_node.mp h
    have hl := texts_len (fun k hk => ih k hk (h2 k hk)) (h3.imp fun h => h.1)
    rw [BT.text, set_node, texts_map]
    match ks, h1, hl with
    | k :: ks, h1, hl =>
      rw [List.map_cons] at hl ⊢
      rw [List.length_cons, List.length_append, join_len]
      simp only [List.map_cons, List.sum_cons, List.length_cons] at hl h1 ⊢
      simp only [List.length_nil]
      have : (List.map (fun y : List UInt8 => 0 + 1 + y.length) (List.map BT.text ks)).sum = (List.map (fun y : List UInt8 => 1 + y.length) (List.map BT.text ks)).sum := by simp
      omega
theorem text_32 {t : BT} (h : t.Good) : t.text.length ≤ 32 := by have h1 := text_len h; have h2 := pcN_le t.set 8; omega

/-! ### the walk -/
theorem info9 : (Tryd.prog.info? 9).map (fun i => (i.zero, i.size, i.bytes)) = some (some (.string ⟨#[]⟩), 1, 16) := by kernel_rfl
theorem txt_leaf (s : Int) (w : World) : (method 289 102 (.agg #[.int .i64 s]) "droveway/breed.text").run Tryd.prog w = .ok (135, .agg #[.int .i64 s]) w := by kernel_rfl
theorem txt_node (s : Int) (v : Value) (w : World) : (method 289 111 (.agg #[.int .i64 s, v]) "droveway/breed.text").run Tryd.prog w = .ok (146, .agg #[.int .i64 s, v]) w := by kernel_rfl
theorem enters135 : ∀ args w, (callFunc 135 args).run Tryd.prog w = .ok (.enter 135 args) w := enters_of Tryd.func135 (by kernel_rfl) rfl
theorem enters146 : ∀ args w, (callFunc 146 args).run Tryd.prog w = .ok (.enter 146 args) w := enters_of Tryd.func146 (by kernel_rfl) rfl
def strB (l : List UInt8) : ByteArray := ⟨l.toArray⟩
def TxtC (t : BT) : Prop := t.Good → ∀ (ok : Nat → Prop) (v : Value) (W : World), TrV W ok v t → ∃ (T : TypeId) (u : Value) (K : Nat), v = .iface T u ∧ (∀ w, (method 289 T u "droveway/breed.text").run Tryd.prog w = .ok (K, u) w) ∧ (∀ args w, (callFunc K args).run Tryd.prog w = .ok (.enter K args) w) ∧ ∀ W', Below W.heap.size W W' → TabAt W' → Calls Tryd.prog K #[u] W' fun e w' => e = .returned (.string (strB t.text)) ∧ Below W'.heap.size W' w'
theorem dec_one : ∀ i, i < 8 → Lib.decDigits i = [UInt8.ofNat (48 + i)] := by decide +kernel
theorem low_two : ∀ i, i < 8 → low (2 ^ i) = i := by decide +kernel
set_option maxRecDepth 100000 in
set_option maxHeartbeats 1600000 in
theorem text_leafC (i : Nat) (hi : i < 8) (W : World) (hT : TabAt W) : Calls Tryd.prog 135 #[.agg #[.int .i64 ((2 ^ i : Nat) : Int)]] W fun e w' => e = .returned (.string (strB (BT.leaf i).text)) ∧ Below W.heap.size W w' := by
  have h0 : 2 ^ i ≠ 0 := Nat.pos_iff_ne_zero.mp (Nat.two_pow_pos i)
  have h1 : 2 ^ i < 256 := Nat.pow_lt_pow_right (a := 2) (by decide) (n := 8) hi
  have HT : Aside0 (∀ W', Below W.heap.size W W' → TabAt W') := ⟨fun W' h => hT.next h⟩
  have HTZ : Aside0 (∀ w, TabAt w → Calls Tryd.prog 86 #[.int .u64 ((2 ^ i : Nat) : Int)] w fun e w' => e = .returned (.int .i64 ((i : Nat) : Int)) ∧ w = w') := ⟨fun w h => by
    have := tz_calls (2 ^ i) h0 h1 w h
    rwa [low_two i hi] at this⟩
  have HTX : Aside0 (strB (BT.leaf i).text = ⟨(Lib.decDigits i).toArray⟩) := ⟨by rw [BT.text, dec_one i hi]; rfl⟩
  have HI := Aside0.mk hi
  have hw : IntKind.u64.wrap ((2 ^ i : Nat) : Int) = ((2 ^ i : Nat) : Int) := by
    generalize 2 ^ i = N at h1
    rw [IntKind.wrap_u64]; omega
  generalize ((2 ^ i : Nat) : Int) = s at *
  clear hT h0 h1
  rw [HTX.out]
  have hsz : W.heap.size = W.heap.size := rfl
  have HB0 : Aside0 (Below W.heap.size W (W.alloc (.cells #[.int .i64 s] 102))) := ⟨(Below.refl _ _).alloc (Nat.le_refl _) _⟩
  go_enter Tryd.func135, Tryd.ntmps135
  go_wp2_with (first
    | (go_at_call 86; go_must (refine (HTZ.out _ (HT.out _ HB0.out)).mono ?_; rintro e w1 ⟨rfl, rfl⟩))
    | (go_at_call 136; go_must (refine (Tryd.strconv_Itoa_small i (by have := HI.out; omega) _).mono ?_; rintro e w2 ⟨rfl, rfl⟩)))
  go_ret
  exact ⟨rfl, HB0.out⟩
set_option maxRecDepth 100000 in
set_option maxHeartbeats 1600000 in
theorem text_nodeC (ks : List BT) (IH : ∀ k ∈ ks, TxtC k) (hg : (BT.node ks).Good) (ok : Nat → Prop) (g c : Nat) (W : World) (hgl : g < W.heap.size) (hk : ∀ i k, ks[i]? = some k → ∃ u, W.cell? ⟨g, i, none⟩ = some u ∧ TrV W ok u k) (s : Int) (hT : TabAt W) :
    Calls Tryd.prog 146 #[.agg #[.int .i64 s, .slice (some ⟨g, 0, none⟩) ks.length c]] W fun e w' => e = .returned (.string (strB (BT.node ks).text)) ∧ Below W.heap.size W w' := by
  obtain ⟨h2, hks, hpw⟩ := good_node.mp hg
  obtain ⟨S, hS⟩ : ∃ S, strB (BT.node ks).text = S := ⟨_, rfl⟩
  have HX : Aside0 ((⟨#[40]⟩ ++ strB (Lib.join (ks.map BT.text) [44])) ++ ⟨#[41]⟩ = S) := ⟨by
    rw [← hS, BT.text, texts_map]
    generalize Lib.join (ks.map BT.text) [44] = J
    show (⟨#[40]⟩ ++ ⟨J.toArray⟩) ++ ⟨#[41]⟩ = (⟨(40 :: (J ++ [41])).toArray⟩ : ByteArray)
    rw [ByteArray.mk_append_mk, ByteArray.mk_append_mk]
    simp⟩
  rw [hS]
  clear hS
  have HG := Aside0.mk hks
  have HK := Aside0.mk hk
  have HIH := Aside0.mk IH
  have HT : Aside0 (∀ W', Below W.heap.size W W' → TabAt W') := ⟨fun W' h => hT.next h⟩
  have hml := kids_le hg
  obtain ⟨n, hn⟩ : ∃ n, ks.length = n := ⟨_, rfl⟩
  have HN := Aside0.mk hn
  rw [hn]
  rw [hn] at hml
  have hJ : Aside0 ((Lib.join (ks.map BT.text) [44]).length ≤ 30) := ⟨by
    have := text_32 hg
    rw [BT.text, texts_map, List.length_cons, List.length_append] at this
    simp at this
    omega⟩
  have hn2 : 2 ≤ n := by omega
  clear hk hks hg IH hpw h2 hn hT
  go_enter Tryd.func146, Tryd.ntmps146
  go_upto_region 3 with fail
  have HB0 : Aside0 (Below W.heap.size W (W.alloc (.cells #[.int .i64 s, .slice (some ⟨g, 0, none⟩) n c] 111))) := ⟨(Below.refl _ _).alloc (Nat.le_refl _) _⟩
  generalize W.alloc (.cells #[.int .i64 s, .slice (some ⟨g, 0, none⟩) n c] 111) = W2 at HB0 ⊢
  go_loopg [3, 5, 9] n (fun gg v3 _ v9 wr => ∃ (k : Nat) (vo : Value), k ≤ n ∧ n - k ≤ gg ∧ v9 = .int .i64 k ∧ vo = v3 ∧ Aside0 (Kd.string.R 9 wr W.heap.size (fun _ => True) vo ((ks.take k).map fun t => strB t.text)) ∧ Aside0 (Below W.heap.size W wr))
  case atStart => exact ⟨0, _, Nat.zero_le _, by omega, rfl, rfl, ⟨by rw [List.take_zero]; exact Kd.R_nil _ _ _ _ _⟩, HB0⟩
  case round =>
    clear HB0
    obtain ⟨k, vo, hk, hgg, rfl, hvo, HV, HB⟩ := hrel
    subst hvo
    by_cases hkn : k < n
    · have hkz : (k : Int) < (n : Int) := by omega
      have hky : k < ks.length := by rw [HN.out]; exact hkn
      obtain ⟨v, hc1, htv⟩ := HK.out k (ks.getD k default) (by rw [List.getD_eq_getElem?_getD, List.getElem?_eq_getElem hky]; rfl)
      have hm1 : ks.getD k default ∈ ks := getD_mem default hky
      obtain ⟨T, u, K, rfl, hmt, hen, hcall⟩ := HIH.out _ hm1 (HG.out _ hm1) ok v W htv
      have HC : Aside0 (Calls Tryd.prog K #[u] wr fun e w' => e = .returned (.string (strB (ks.getD k default).text)) ∧ Below wr.heap.size wr w') := ⟨hcall wr HB.out (HT.out _ HB.out)⟩
      have HTK : Aside0 ((ks.take (k + 1)).map (fun t => strB t.text) = (ks.take k).map (fun t => strB t.text) ++ [strB (ks.getD k default).text]) := ⟨by
        rw [List.take_add_one, List.map_append, List.getElem?_eq_getElem hky, List.getD_eq_getElem?_getD, List.getElem?_eq_getElem hky]
        rfl⟩
      have hx : wr.cell? ⟨g, k, none⟩ = some (.iface T u) := (World.cell?_of_block (HB.out.block g hgl)).trans hc1
      clear hc1 htv hm1 hcall
      generalize strB (ks.getD k default).text = tx at HC HTK
      have HL3 : Aside0 (((ks.take k).map fun t => strB t.text).length = k) := ⟨by rw [List.length_map, List.length_take, HN.out]; omega⟩
      obtain ⟨A3, c3, hv3, hc3, _⟩ := Kd.R_reads HV.out
      rw [HL3.out] at hv3
      subst hv3
      go_wp2_with (first
        | (go_at_fn K; go_must (refine HC.out.mono ?_; rintro e w5 ⟨rfl, hb5⟩; have HB5 := Aside0.mk (below_then HB.out HB.out.size hb5); have HV5 := Aside0.mk (Kd.R_below HV.out hb5); clear hb5))
        | (at_builtin; go_must (refine Kd.R_append Kd.string (w0 := W) W.heap.size rfl (.tmp 13) (.tmp 16) 56 9 (.string ⟨#[]⟩) 16 rfl Tryd.underlying56 info9 rfl (by decide) (by decide) (.slice A3 k c3) ((ks.take k).map fun t => strB t.text) tx [.string tx] (fun _ => True) (fun _ => False) rfl rfl rfl (fun _ hk => hk.elim) (fun _ _ => trivial) HV5.out HB5.out HB5.out.size (by rw [HL3.out]; omega) ?_; intro v6 w6 ho hb6 _ _; rw [← HTK.out] at ho; have HO6 := Aside0.mk ho; have HB6 := Aside0.mk hb6; clear ho hb6)))
      go_roundg (n - (k + 1))
      case measure => omega
      case rel => exact ⟨k + 1, _, by omega, by omega, by go_num, rfl, HO6, HB6⟩
    · have hkz : ¬ (k : Int) < (n : Int) := by omega
      have hkn2 : k = n := by omega
      have HTK : Aside0 ((ks.take k).map (fun t => strB t.text) = ks.map fun t => strB t.text) := ⟨by rw [List.take_of_length_le (by rw [HN.out]; omega)]⟩
      have hR := HV.out
      rw [HTK.out] at hR
      have HL3 : Aside0 ((ks.map fun t => strB t.text).length = n) := ⟨by rw [List.length_map, HN.out]⟩
      obtain ⟨g3, c3, hv3, _⟩ := Kd.R_form hR (by rw [HL3.out]; omega)
      rw [HL3.out] at hv3
      subst hv3
      have hC := (Kd.R_reads' hR).2.2
      have hcc := (Kd.R_reads' hR).2.1
      have hcells : ∀ (j : Nat) x, (ks.map fun t => strB t.text)[j]? = some x → wr.cell? ⟨g3, 0 + j, none⟩ = some (.string x) := fun j x hj => by
        have hjl := (List.getElem?_eq_some_iff.mp hj).1
        obtain ⟨ad, had, hx⟩ := Kd.at_string hC (j : Int) (by omega) (by omega)
        cases had
        rw [Int.toNat_natCast, YtdbbcngmnpejnaaDoorW.PrintWords.add_plain] at hx
        rw [Nat.zero_add, hx]
        have : rdOf ByteArray.empty (ks.map fun t => strB t.text) (j : Int) = x := by
          unfold rdOf
          rw [Int.toNat_natCast, List.getD_eq_getElem?_getD, hj]; rfl
        rw [this]
      have hmap : (ks.map fun t => strB t.text).map (·.data.toList) = ks.map BT.text := by rw [List.map_map]; rfl
      obtain ⟨b3, hb3⟩ : ∃ b3, wr.heap[g3]? = some b3 := by
        obtain ⟨cs, h⟩ := Kd.R_typed hR g3 rfl
        exact ⟨_, h⟩
      have HJC : Aside0 (Calls Tryd.prog 147 #[.slice (some ⟨g3, 0, none⟩) n c3, .string ⟨#[44]⟩] wr fun e w' => e = .returned (.string (strB (Lib.join (ks.map BT.text) [44]))) ∧ Below wr.heap.size wr w') := ⟨by
        have := Tryd.strings_Join g3 0 c3 (ks.map fun t => strB t.text) ⟨#[44]⟩ wr hcells (YtdbbcngmnpejnaaDoorW.PrintWords.blk_lt hb3) (by rw [HL3.out]; omega) (by rw [HL3.out]; exact hcc) (by rw [hmap]; have := hJ.out; show (Lib.join (ks.map BT.text) [44]).length ≤ _; omega)
        rw [hmap, HL3.out] at this
        exact this⟩
      clear hC hcc hcells hmap hb3 hR
      have hs0 : (strB (Lib.join (ks.map BT.text) [44])).size ≤ 30 := hJ.out
      have hX := HX.out
      clear HX hJ
      generalize strB (Lib.join (ks.map BT.text) [44]) = js at HJC hs0 hX
      have a1 : ∀ w, (Op.stringOp .add ⟨#[40]⟩ js).run Tryd.prog w = .ok (.string (⟨#[40]⟩ ++ js)) w := fun w => run_string_add_sum w _ _ (by have : (⟨#[40]⟩ : ByteArray).size = 1 := rfl; omega)
      have a2 : ∀ w, (Op.stringOp .add (⟨#[40]⟩ ++ js) ⟨#[41]⟩).run Tryd.prog w = .ok (.string ((⟨#[40]⟩ ++ js) ++ ⟨#[41]⟩)) w := fun w => run_string_add_sum w _ _ (by rw [ByteArray.size_append]; have : (⟨#[40]⟩ : ByteArray).size = 1 := rfl; have : (⟨#[41]⟩ : ByteArray).size = 1 := rfl; omega)
      obtain ⟨s1, hs1⟩ : ∃ s1 : ByteArray, ⟨#[40]⟩ ++ js = s1 := ⟨_, rfl⟩
      rw [hX] at a2
      rw [hs1] at a1 a2
      clear hs1 hX
      go_wp2_with (go_at_call 147; go_must (refine HJC.out.mono ?_; rintro e w7 ⟨rfl, hb7⟩; have HB7 := Aside0.mk (below_then HB.out HB.out.size hb7); clear hb7))
      go_ret
      exact ⟨rfl, HB7.out⟩
theorem text_calls (t : BT) : TxtC t := by
  refine BT.ind (P := TxtC) (fun i h ok v W hv => ?_) (fun ks ih hg ok v W hv => ?_) t
  · rw [trv_leaf.mp hv]
    rw [BT.Good] at h
    exact ⟨102, _, 135, rfl, fun w => txt_leaf _ w, enters135, fun W' _ hT => text_leafC i h W' hT⟩
  · obtain ⟨g, c, rfl, _, hgl, hk⟩ := trv_node.mp hv
    refine ⟨111, _, 146, rfl, fun w => txt_node _ _ w, enters146, fun W' hb hT => text_nodeC ks ih hg ok g c W' (Nat.lt_of_lt_of_le hgl.2 hb.size) (fun i k hi => ?_) _ hT⟩
    obtain ⟨u, hu, htu⟩ := hk i k hi
    exact ⟨u, (World.cell?_of_block (hb.block g hgl.2)).trans hu, htu.below hb⟩
end Go.Proofs.YtdbbcngmnpejnaaDoor.A

/- The parts of a set that triples join, plain: as the program finds them. -/
namespace Go.Proofs.YtdbbcngmnpejnaaDoor.A
/-- Beasts of a triple. -/
def S44.a (t : S44) : Nat := t.f0.toNat
def S44.b (t : S44) : Nat := t.f1.toNat
def S44.c (t : S44) : Nat := t.f2.toNat
def Tri8 (t : S44) : Prop := (0 ≤ t.f0 ∧ t.f0 < 8) ∧ (0 ≤ t.f1 ∧ t.f1 < 8) ∧ (0 ≤ t.f2 ∧ t.f2 < 8)
def pairN (t : S44) : Nat := 2 ^ t.a ||| 2 ^ t.b
def allN (t : S44) : Nat := pairN t ||| 2 ^ t.c
def condJ (s part : Nat) (t : S44) : Bool := hasB (allN t) s && decide (pairN t &&& part ≠ 0) && decide (diffN (pairN t) part ≠ 0)
def stepJ (s part : Nat) (t : S44) : Nat := if condJ s part t = true then part ||| pairN t else part
/-- The first k triples have been met. -/
def passJ (l : List S44) (s part : Nat) : Nat → Nat
  | 0 => part
  | k + 1 => stepJ s (passJ l s part k) (l.getD k z44)
def moreJ (l : List S44) (s part : Nat) : Nat → Bool
  | 0 => false
  | k + 1 => moreJ l s part k || condJ s (passJ l s part k) (l.getD k z44)
def growJ (l : List S44) (s : Nat) : Nat → Nat → Nat
  | 0, part => part
  | f + 1, part => if moreJ l s part l.length = true then growJ l s f (passJ l s part l.length) else passJ l s part l.length
def partsJ (l : List S44) (s : Nat) : Nat → Nat → List Nat
  | 0, _ => []
  | f + 1, left => if left = 0 then [] else growJ l s 9 (2 ^ low left) :: partsJ l s f (diffN left (growJ l s 9 (2 ^ low left)))
def joinedF (l : List S44) (s : Nat) : List Int := ((partsJ l s 9 s).map fun p : Nat => (p : Int)).mergeSort fun x y => decide (x ≤ y)

/-! ### bounds -/
variable {l : List S44} {s : Nat}
theorem tri_lt {t : S44} (h : Tri8 t) : t.a < 8 ∧ t.b < 8 ∧ t.c < 8 := by
  unfold S44.a S44.b S44.c
  obtain ⟨h1, h2, h3⟩ := h
  omega
theorem two_256 {i : Nat} (h : i < 8) : 2 ^ i < 256 := Nat.pow_lt_pow_right (a := 2) (by decide) (n := 8) h
theorem or_256 {a b : Nat} (ha : a < 256) (hb : b < 256) : a ||| b < 256 := Nat.or_lt_two_pow (n := 8) ha hb
theorem pair_256 {t : S44} (h : Tri8 t) : pairN t < 256 := or_256 (two_256 (tri_lt h).1) (two_256 (tri_lt h).2.1)
theorem all_256 {t : S44} (h : Tri8 t) : allN t < 256 := or_256 (pair_256 h) (two_256 (tri_lt h).2.2)
theorem step_256 {part : Nat} {t : S44} (h : Tri8 t) (hp : part < 256) : stepJ s part t < 256 := by
  unfold stepJ
  split
  · exact or_256 hp (pair_256 h)
  · exact hp
theorem pass_256 (hl : ∀ t ∈ l, Tri8 t) {part : Nat} (hp : part < 256) : ∀ k, k ≤ l.length → passJ l s part k < 256
  | 0, _ => hp
  | k + 1, hk => step_256 (hl _ (getD_mem z44 hk)) (pass_256 hl hp k (by omega))
theorem pcN_mono {a b : Nat} (h : ∀ i, a.testBit i = true → b.testBit i = true) : ∀ m, pcN a m ≤ pcN b m
  | 0 => Nat.le_refl _
  | m + 1 => by
    have h1 := pcN_mono h m
    rw [pcN, pcN]
    cases e : a.testBit m with
    | false => simp; omega
    | true => rw [h m e]; simp; omega
theorem pcN_more {a b : Nat} (h : ∀ i, a.testBit i = true → b.testBit i = true) {j : Nat} (h1 : a.testBit j = false) (h2 : b.testBit j = true) : ∀ m, j < m → pcN a m < pcN b m
  | 0, hm => absurd hm (Nat.not_lt_zero _)
  | m + 1, hm => by
    rw [pcN, pcN]
    by_cases e : j = m
    · subst e
      have := pcN_mono h j
      rw [h1, h2]; simp; omega
    · have := pcN_more h h1 h2 m (by omega)
      cases e2 : a.testBit m with
      | false => simp; omega
      | true => rw [h m e2]; simp; omega
theorem step_sub (s part : Nat) (t : S44) : ∀ i, part.testBit i = true → (stepJ s part t).testBit i = true := fun i hi => by
  unfold stepJ
  split
  · rw [Nat.testBit_or, hi]; rfl
  · exact hi
theorem pass_sub (l : List S44) (s part : Nat) : ∀ k i, part.testBit i = true → (passJ l s part k).testBit i = true
  | 0, _, hi => hi
  | k + 1, i, hi => step_sub _ _ _ i (pass_sub l s part k i hi)
theorem cond_new {part : Nat} {t : S44} (h : condJ s part t = true) : ∃ j, (pairN t).testBit j = true ∧ part.testBit j = false := by
  unfold condJ at h
  rw [Bool.and_eq_true, decide_eq_true_iff] at h
  obtain ⟨j, hj⟩ := ne_bit h.2
  rw [diff_bit, Bool.and_eq_true] at hj
  exact ⟨j, hj.1, by cases e : part.testBit j with | false => rfl | true => rw [e] at hj; exact absurd hj.2 (by decide)⟩
theorem more_new {part : Nat} (hl : ∀ t ∈ l, Tri8 t) : ∀ k, k ≤ l.length → moreJ l s part k = true → ∃ j, j < 8 ∧ part.testBit j = false ∧ (passJ l s part k).testBit j = true
  | 0, _, h => by rw [moreJ] at h; cases h
  | k + 1, hk, h => by
    rw [moreJ, Bool.or_eq_true] at h
    rcases h with h | h
    · obtain ⟨j, h0, h1, h2⟩ := more_new hl k (by omega) h
      exact ⟨j, h0, h1, step_sub _ _ _ j h2⟩
    · obtain ⟨j, h1, h2⟩ := cond_new h
      refine ⟨j, bit_lt (k := 8) (pair_256 (hl _ (getD_mem z44 hk))) h1, ?_, ?_⟩
      · cases e : part.testBit j with
        | false => rfl
        | true => rw [pass_sub l s part k j e] at h2; cases h2
      · rw [passJ, stepJ, if_pos h, Nat.testBit_or, h1, Bool.or_true]
/-- A round in which something is added makes the part greater. -/
theorem more_pc {part : Nat} (hl : ∀ t ∈ l, Tri8 t) (h : moreJ l s part l.length = true) : pcN part 8 < pcN (passJ l s part l.length) 8 := by
  obtain ⟨j, h0, h1, h2⟩ := more_new hl l.length (Nat.le_refl _) h
  exact pcN_more (pass_sub l s part l.length) h1 h2 8 h0
theorem grow_256 (hl : ∀ t ∈ l, Tri8 t) : ∀ f part, part < 256 → growJ l s f part < 256
  | 0, _, h => h
  | f + 1, part, h => by
    rw [growJ]
    split
    · exact grow_256 hl f _ (pass_256 hl h _ (Nat.le_refl _))
    · exact pass_256 hl h _ (Nat.le_refl _)
theorem grow_sub : ∀ f part i, part.testBit i = true → (growJ l s f part).testBit i = true
  | 0, _, _, h => h
  | f + 1, part, i, h => by
    rw [growJ]
    split
    · exact grow_sub f _ i (pass_sub l s part _ i h)
    · exact pass_sub l s part _ i h
/-- What is left grows less with each part. -/
theorem left_pc {left : Nat} (h0 : left ≠ 0) (h1 : left < 256) (f : Nat) : pcN (diffN left (growJ l s f (2 ^ low left))) 8 < pcN left 8 := by
  refine pcN_more (j := low left) (fun i hi => ?_) ?_ (low_bit h0 h1) 8 (low_lt h0 h1)
  · rw [diff_bit, Bool.and_eq_true] at hi; exact hi.1
  · rw [diff_bit, grow_sub f _ (low left) (by rw [two_bit, decide_eq_true_iff])]; simp
theorem low_two_and : (List.range 256).all (fun x => x == 0 || decide (bits .and .i64 (x : Int) (IntKind.i64.wrap (-(x : Int))) = ((2 ^ low x : Nat) : Int))) = true := by decide +kernel
end Go.Proofs.YtdbbcngmnpejnaaDoor.A

/- The parts of a set that triples join: they are closed, apart, ascending, and all of the set. -/
namespace Go.Proofs.YtdbbcngmnpejnaaDoor.A
def SubN (a b : Nat) : Prop := ∀ i, a.testBit i = true → b.testBit i = true
theorem SubN.trans {a b c : Nat} (h : SubN a b) (k : SubN b c) : SubN a c := fun i hi => k i (h i hi)
theorem sub_or {a b c : Nat} (h : SubN a c) (k : SubN b c) : SubN (a ||| b) c := fun i hi => by
  rw [Nat.testBit_or, Bool.or_eq_true] at hi
  exact hi.elim (h i) (k i)
theorem meet_iff {a b : Nat} : a &&& b ≠ 0 ↔ ∃ i, a.testBit i = true ∧ b.testBit i = true := by
  constructor
  · intro h
    obtain ⟨i, hi⟩ := ne_bit h
    rw [Nat.testBit_and, Bool.and_eq_true] at hi
    exact ⟨i, hi⟩
  · rintro ⟨i, h1, h2⟩
    exact bit_ne (i := i) (by rw [Nat.testBit_and, h1, h2]; rfl)
/-- No pair that counts leaves the set. -/
def ClosedJ (l : List S44) (s Q : Nat) : Prop := ∀ t ∈ l, SubN (allN t) s → pairN t &&& Q ≠ 0 → SubN (pairN t) Q
variable {l : List S44} {s : Nat}
theorem pair_sub (t : S44) : SubN (pairN t) (allN t) := fun i hi => by unfold allN; rw [Nat.testBit_or, hi]; rfl
theorem closed_whole : ClosedJ l s s := fun t _ h _ => (pair_sub t).trans h
theorem closed_diff {A B : Nat} (hA : ClosedJ l s A) (hB : ClosedJ l s B) : ClosedJ l s (diffN A B) := fun t ht h hm => by
  obtain ⟨j, hj1, hj2⟩ := meet_iff.mp hm
  rw [diff_bit, Bool.and_eq_true] at hj2
  have h1 := hA t ht h (meet_iff.mpr ⟨j, hj1, hj2.1⟩)
  intro i hi
  rw [diff_bit, h1 i hi]
  cases e : B.testBit i with
  | false => rfl
  | true =>
    have h2 := hB t ht h (meet_iff.mpr ⟨i, hi, e⟩) j hj1
    rw [h2] at hj2; exact absurd hj2.2 (by decide)
theorem step_in {Q part : Nat} {t : S44} (hQ : ClosedJ l s Q) (ht : t ∈ l) (hp : SubN part Q) : SubN (stepJ s part t) Q := by
  unfold stepJ
  split
  · rename_i h
    unfold condJ at h
    rw [Bool.and_eq_true, Bool.and_eq_true, decide_eq_true_iff] at h
    obtain ⟨j, h1, h2⟩ := meet_iff.mp h.1.2
    exact sub_or hp (hQ t ht (has_iff.mp h.1.1) (meet_iff.mpr ⟨j, h1, hp j h2⟩))
  · exact hp
theorem pass_in {Q part : Nat} (hQ : ClosedJ l s Q) (hp : SubN part Q) : ∀ k, k ≤ l.length → SubN (passJ l s part k) Q
  | 0, _ => hp
  | k + 1, hk => step_in hQ (getD_mem z44 hk) (pass_in hQ hp k (by omega))
theorem grow_in {Q : Nat} (hQ : ClosedJ l s Q) : ∀ f part, SubN part Q → SubN (growJ l s f part) Q
  | 0, _, h => h
  | f + 1, part, h => by
    rw [growJ]
    split
    · exact grow_in hQ f _ (pass_in hQ h _ (Nat.le_refl _))
    · exact pass_in hQ h _ (Nat.le_refl _)
theorem more_none {part : Nat} : ∀ k, moreJ l s part k = false → passJ l s part k = part ∧ ∀ i, i < k → condJ s part (l.getD i z44) = false
  | 0, _ => ⟨rfl, fun i h => absurd h (Nat.not_lt_zero _)⟩
  | k + 1, h => by
    rw [moreJ, Bool.or_eq_false_iff] at h
    obtain ⟨h1, h2⟩ := more_none k h.1
    rw [h1] at h
    refine ⟨by rw [passJ, h1, stepJ, if_neg (by rw [h.2]; exact Bool.false_ne_true)], fun i hi => ?_⟩
    by_cases e : i = k
    · rw [e]; exact h.2
    · exact h2 i (by omega)
theorem none_closed {part : Nat} (h : moreJ l s part l.length = false) : ClosedJ l s part := fun t ht hs hm => by
  obtain ⟨_, h2⟩ := more_none l.length h
  obtain ⟨i, hi, e⟩ := List.getElem_of_mem ht
  have h3 := h2 i hi
  rw [List.getD_eq_getElem?_getD, List.getElem?_eq_getElem hi, Option.getD_some, e] at h3
  unfold condJ at h3
  rw [has_iff.mpr hs, decide_eq_true hm, Bool.true_and, Bool.true_and, decide_eq_false_iff_not, Classical.not_not, diff_zero] at h3
  exact has_iff.mp h3
theorem grow_closed (hl : ∀ t ∈ l, Tri8 t) : ∀ f part, 8 < f + pcN part 8 → ClosedJ l s (growJ l s f part)
  | 0, part, h => by have := pcN_le part 8; omega
  | f + 1, part, h => by
    rw [growJ]
    cases e : moreJ l s part l.length with
    | true =>
      rw [if_pos rfl]
      have := more_pc hl e
      exact grow_closed hl f _ (by omega)
    | false =>
      rw [if_neg Bool.false_ne_true, (more_none l.length e).1]
      exact none_closed e
/-- What is known of the parts. -/
structure PartsOf (l : List S44) (s left : Nat) (P : List Nat) : Prop where
  ne : ∀ p ∈ P, p ≠ 0
  sub : ∀ p ∈ P, SubN p left
  closed : ∀ p ∈ P, ClosedJ l s p
  least : ∀ p ∈ P, ∀ Q, ClosedJ l s Q → Q.testBit (low p) = true → SubN p Q
  apart : P.Pairwise fun a b => a &&& b = 0 ∧ low a < low b
  all : ∀ i, left.testBit i = true → ∃ p ∈ P, p.testBit i = true
theorem low_sub {a b : Nat} (ha : a ≠ 0) (hb : b < 256) (h : SubN a b) : low b ≤ low a := low_le hb (h _ (low_bit ha (lt_of_bits (k := 8) fun i hi => bit_lt (k := 8) hb (h i hi))))
theorem parts_of (hl : ∀ t ∈ l, Tri8 t) : ∀ f left, left < 256 → ClosedJ l s left → pcN left 8 < f → PartsOf l s left (partsJ l s f left)
  | 0, _, _, _, h => absurd h (Nat.not_lt_zero _)
  | f + 1, left, h8, hc, hf => by
    rw [partsJ]
    by_cases h0 : left = 0
    · rw [if_pos h0, h0]
      exact ⟨fun p h => (by cases h), fun p h => (by cases h), fun p h => (by cases h), fun p h => (by cases h), List.Pairwise.nil, fun i hi => by rw [Nat.zero_testBit] at hi; cases hi⟩
    · rw [if_neg h0]
      have hseed : SubN (2 ^ low left) left := fun i hi => by
        rw [two_bit, decide_eq_true_iff] at hi
        rw [← hi]; exact low_bit h0 h8
      have hpc1 : 1 ≤ pcN (2 ^ low left) 8 := pcN_pos 8 (low left) (low_lt h0 h8) (by rw [two_bit, decide_eq_true_iff])
      have hG := grow_closed (s := s) hl 9 (2 ^ low left) (by omega)
      have hGs := grow_in hc 9 _ hseed
      have hGb : (growJ l s 9 (2 ^ low left)).testBit (low left) = true := grow_sub 9 _ _ (by rw [two_bit, decide_eq_true_iff])
      have hGm : ∀ Q, ClosedJ l s Q → Q.testBit (low left) = true → SubN (growJ l s 9 (2 ^ low left)) Q := fun Q hQ hb => grow_in hQ 9 _ fun i hi => by
        rw [two_bit, decide_eq_true_iff] at hi
        rw [← hi]; exact hb
      have hpc := left_pc (l := l) (s := s) h0 h8 9
      generalize growJ l s 9 (2 ^ low left) = G at *
      have hG0 := bit_ne hGb
      have hG8 : G < 256 := lt_of_bits (k := 8) fun i hi => bit_lt (k := 8) h8 (hGs i hi)
      have hGl : low G = low left := Nat.le_antisymm (low_le hG8 hGb) (low_sub hG0 h8 hGs)
      have hd8 : diffN left G < 256 := diff_le left G (k := 8) h8
      have ih := parts_of hl f (diffN left G) hd8 (closed_diff hc hG) (by omega)
      have hds : SubN (diffN left G) left := fun i hi => by rw [diff_bit, Bool.and_eq_true] at hi; exact hi.1
      refine ⟨fun p hp => ?_, fun p hp => ?_, fun p hp => ?_, fun p hp => ?_, ?_, fun i hi => ?_⟩
      · rcases List.mem_cons.mp hp with e | e
        · rw [e]; exact hG0
        · exact ih.ne p e
      · rcases List.mem_cons.mp hp with e | e
        · rw [e]; exact hGs
        · exact (ih.sub p e).trans hds
      · rcases List.mem_cons.mp hp with e | e
        · rw [e]; exact hG
        · exact ih.closed p e
      · rcases List.mem_cons.mp hp with e | e
        · rw [e, hGl]; exact hGm
        · exact ih.least p e
      · rw [List.pairwise_cons]
        refine ⟨fun p hp => ?_, ih.apart⟩
        have hps := ih.sub p hp
        refine ⟨disj_iff.mpr fun i hi => ?_, ?_⟩
        · cases e : p.testBit i with
          | false => rfl
          | true => have := hps i e; rw [diff_bit, hi] at this; simp at this
        · rw [hGl]
          have hp0 := ih.ne p hp
          have hp8 : p < 256 := lt_of_bits (k := 8) fun i hi => bit_lt (k := 8) hd8 (hps i hi)
          have h1 := hps _ (low_bit hp0 hp8)
          have h2 := low_le h8 (hds _ h1)
          rcases Nat.lt_or_ge (low left) (low p) with h3 | h3
          · exact h3
          · have e : low p = low left := by omega
            rw [e, diff_bit, hGb] at h1
            simp at h1
      · cases e : G.testBit i with
        | true => exact ⟨G, List.mem_cons_self, e⟩
        | false =>
          obtain ⟨p, hp, hpi⟩ := ih.all i (by rw [diff_bit, hi, e]; rfl)
          exact ⟨p, List.mem_cons_of_mem _ hp, hpi⟩
/-- The parts of a set, in the order of their least beasts. -/
def partsF (l : List S44) (s : Nat) : List Nat := partsJ l s 9 s
theorem parts_spec (hl : ∀ t ∈ l, Tri8 t) (h8 : s < 256) : PartsOf l s s (partsF l s) := parts_of hl 9 s h8 closed_whole (by have := pcN_le s 8; omega)
end Go.Proofs.YtdbbcngmnpejnaaDoor.A

/- A tree made of a set's parts, plain. -/
namespace Go.Proofs.YtdbbcngmnpejnaaDoor.A
def mapO {α β : Type} (g : α → Option β) : List α → Option (List β)
  | [] => some []
  | x :: xs => match g x with
    | none => none
    | some t => match mapO g xs with
      | none => none
      | some ts => some (t :: ts)
theorem mapO_some {α β : Type} {g : α → Option β} : ∀ {xs : List α} {ts : List β}, mapO g xs = some ts ↔ xs.map g = ts.map some
  | [], ts => by
    rw [mapO]
    cases ts <;> simp
  | x :: xs, ts => by
    rw [mapO]
    cases h : g x with
    | none => cases ts <;> simp [h]
    | some t =>
      cases ts with
      | nil => simp only []; cases mapO g xs <;> simp
      | cons u us =>
        have ih := mapO_some (g := g) (xs := xs) (ts := us)
        simp only [List.map_cons, h, List.cons.injEq, Option.some.injEq]
        rw [← ih]
        cases mapO g xs with
        | none => simp
        | some vs => simp
theorem mapO_none {α β : Type} {g : α → Option β} : ∀ {xs : List α}, mapO g xs = none ↔ ∃ x ∈ xs, g x = none
  | [] => by rw [mapO]; simp
  | x :: xs => by
    rw [mapO]
    have ih := mapO_none (g := g) (xs := xs)
    cases h : g x with
    | none => simp [h]
    | some t =>
      simp only [List.mem_cons, exists_eq_or_imp, h]
      rw [show (∃ a, a ∈ xs ∧ g a = none) ↔ mapO g xs = none from ih.symm]
      cases mapO g xs with
      | none => simp
      | some vs => simp
/-- A tree of a set: of its only beast, or of the trees of its parts, if it has more than one. -/
def buildF (l : List S44) : Nat → Nat → Option BT
  | 0, _ => none
  | f + 1, s => if s &&& (s - 1) = 0 then some (.leaf (low s)) else if (partsF l s).length = 1 then none else (mapO (buildF l f) (partsF l s)).map .node
variable {l : List S44} {s : Nat}
/-- A set of one beast. -/
theorem one_iff : ∀ s, s < 256 → s ≠ 0 → (s &&& (s - 1) = 0 ↔ s = 2 ^ low s) := by decide +kernel
theorem sets_eq {left : Nat} {P : List Nat} (hP : PartsOf l s left P) {ts : List BT} (h : ts.map BT.set = P) : BT.sets ts = left := by
  refine Nat.eq_of_testBit_eq fun i => ?_
  have hmem : ∀ p, p ∈ P ↔ ∃ t ∈ ts, t.set = p := fun p => by rw [← h, List.mem_map]
  cases e : left.testBit i with
  | true =>
    obtain ⟨p, hp, hpi⟩ := hP.all i e
    obtain ⟨t, ht, rfl⟩ := (hmem p).mp hp
    exact sets_bit.mpr ⟨t, ht, hpi⟩
  | false =>
    cases e2 : (BT.sets ts).testBit i with
    | false => rfl
    | true =>
      obtain ⟨t, ht, hti⟩ := sets_bit.mp e2
      have := hP.sub t.set ((hmem _).mpr ⟨t, ht, rfl⟩) i hti
      rw [e] at this; cases this
/-- What is made is a good tree of the set. -/
theorem build_good (hl : ∀ t ∈ l, Tri8 t) : ∀ f s t, s ≠ 0 → s < 256 → buildF l f s = some t → t.Good ∧ t.set = s
  | 0, _, _, _, _, h => by rw [buildF] at h; cases h
  | f + 1, s, t, h0, h8, h => by
    rw [buildF] at h
    by_cases h1 : s &&& (s - 1) = 0
    · rw [if_pos h1] at h
      cases h
      exact ⟨by rw [BT.Good]; exact low_lt h0 h8, by rw [set_leaf]; exact ((one_iff s h8 h0).mp h1).symm⟩
    · rw [if_neg h1] at h
      by_cases h2 : (partsF l s).length = 1
      · rw [if_pos h2] at h; cases h
      · rw [if_neg h2] at h
        obtain ⟨ts, hts, rfl⟩ := Option.map_eq_some_iff.mp h
        have hP := parts_spec (s := s) hl h8
        have hm := mapO_some.mp hts
        have hp8 : ∀ p ∈ partsF l s, p < 256 := fun p hp => lt_of_bits (k := 8) fun i hi => bit_lt (k := 8) h8 (hP.sub p hp i hi)
        have hall : ∀ k ∈ ts, k.Good ∧ ∃ p ∈ partsF l s, buildF l f p = some k := fun k hk => by
          have : some k ∈ (partsF l s).map (buildF l f) := by rw [hm]; exact List.mem_map.mpr ⟨k, hk, rfl⟩
          obtain ⟨p, hp, e⟩ := List.mem_map.mp this
          exact ⟨(build_good hl f p k (hP.ne p hp) (hp8 p hp) e).1, p, hp, e⟩
        have hset : ts.map BT.set = partsF l s := by
          have hlen : ts.length = (partsF l s).length := by have := congrArg List.length hm; rw [List.length_map, List.length_map] at this; exact this.symm
          refine List.ext_getElem (by rw [List.length_map, hlen]) fun i h1 h2 => ?_
          rw [List.length_map] at h1
          have e := congrArg (fun L => L[i]?) hm
          (try dsimp only at e)
          rw [List.getElem?_map, List.getElem?_map, List.getElem?_eq_getElem h2, List.getElem?_eq_getElem h1] at e
          have e2 := Option.some.inj e
          have hp := List.getElem_mem h2
          rw [List.getElem_map]
          exact (build_good hl f _ _ (hP.ne _ hp) (hp8 _ hp) e2).2
        refine ⟨good_node.mpr ⟨?_, fun k hk => (hall k hk).1, ?_⟩, by rw [set_node]; exact sets_eq hP hset⟩
        · have hlen : ts.length = (partsF l s).length := by rw [← hset, List.length_map]
          have : (partsF l s).length ≠ 0 := fun e => by
            obtain ⟨i, hi⟩ := ne_bit h0
            obtain ⟨p, hp, _⟩ := hP.all i hi
            rw [List.length_eq_zero_iff.mp e] at hp; cases hp
          omega
        · have := hP.apart
          rw [← hset, List.pairwise_map] at this
          exact this
/-- A part of several is less. -/
theorem part_less (hl : ∀ t ∈ l, Tri8 t) (h8 : s < 256) {p : Nat} (hp : p ∈ partsF l s) (h1 : (partsF l s).length ≠ 1) : pcN p 8 < pcN s 8 := by
  have hP := parts_spec (s := s) hl h8
  obtain ⟨q, hq, hne⟩ : ∃ q ∈ partsF l s, q ≠ p := by
    match hh : partsF l s, hp, h1 with
    | [x], _, h1 => exact absurd rfl h1
    | x :: y :: r, hp, _ =>
      have hpw := hP.apart
      rw [hh, List.pairwise_cons] at hpw
      have hxy := (hpw.1 y List.mem_cons_self).2
      by_cases e : x = p
      · refine ⟨y, by simp, fun e2 => ?_⟩
        rw [e, e2] at hxy; omega
      · exact ⟨x, by simp, e⟩
  have hq8 : q < 256 := lt_of_bits (k := 8) fun i hi => bit_lt (k := 8) h8 (hP.sub q hq i hi)
  have hqb := low_bit (hP.ne q hq) hq8
  have hqs := hP.sub q hq _ hqb
  refine pcN_more (hP.sub p hp) (j := low q) ?_ hqs 8 (bit_lt (k := 8) h8 hqs)
  cases e : p.testBit (low q) with
  | false => rfl
  | true =>
    exfalso
    have : ∀ (P : List Nat), P.Pairwise (fun a b => a &&& b = 0 ∧ low a < low b) → p ∈ P → q ∈ P → False := by
      intro P
      induction P with
      | nil => intro _ h; cases h
      | cons x xs ih =>
        intro hpw h h'
        rw [List.pairwise_cons] at hpw
        rcases List.mem_cons.mp h with a | a <;> rcases List.mem_cons.mp h' with b | b
        · exact hne (b.trans a.symm)
        · subst a; have := disj_iff.mp (hpw.1 q b).1 _ e; rw [hqb] at this; cases this
        · subst b; have := disj_iff.mp (hpw.1 p a).1 _ hqb; rw [e] at this; cases this
        · exact ih hpw.2 a b
    exact this _ hP.apart hp hq
end Go.Proofs.YtdbbcngmnpejnaaDoor.A

/- A row of numbers of one's own, sorted. -/
namespace Go.Proofs.YtdbbcngmnpejnaaDoor.A
open Go.RowKit Go.Proofs.YtdbbcngmnpejnaaDoorW.PrintWords Go.Sort Go.Lib
/-- A row's world behind a store of a whole row. -/
theorem own_put {W : World} {base g n cap q : Nat} {os : Array Obj} {xs ys : List Int} (h : Kd.R (Kd.int .i64) 3 W base (fun _ => True) (.slice (some ⟨g, 0, none⟩) n cap) xs) (hl : ys.length = xs.length) :
    Kd.R (Kd.int .i64) 3 (grow (putRow (Value.int .i64) (Sort.ahead W q) g 0 ys.toArray) os) base (fun _ => True) (.slice (some ⟨g, 0, none⟩) n cap) ys ∧ W.grownBy (grow (putRow (Value.int .i64) (Sort.ahead W q) g 0 ys.toArray) os) (some g) := by
  have ho := Kd.own_of_R h
  rcases ho.2 with ⟨h0, _⟩ | ⟨g', cap', cur, hv, hg, hb, h1, h2, h3, h4⟩
  · cases h0
  · cases hv
    have := ownsRow_sortedI (os := os) (n := q) (ts := ys) (ss := xs) hl hg hb h1 h2 h3
    refine ⟨Kd.R_of_own (by rw [hl]; exact this) (fun _ _ => trivial), grownBy_sortedI _⟩
theorem own_holds {W : World} {base g n cap : Nat} {xs : List Int} (h : Kd.R (Kd.int .i64) 3 W base (fun _ => True) (.slice (some ⟨g, 0, none⟩) n cap) xs) : Holds (Value.int .i64) W g 0 xs.toArray := by
  rcases (Kd.own_of_R h).2 with ⟨h0, _⟩ | ⟨g', cap', cur, hv, hg, hb, h1, h2, h3, h4⟩
  · cases h0
  · cases hv
    exact holds_of_blockI hb (by simpa [encs] using h4)
theorem own_form {W : World} {base : Nat} {v : Value} {xs : List Int} (h : Kd.R (Kd.int .i64) 3 W base (fun _ => True) v xs) (h0 : 0 < xs.length) : ∃ g cap, v = .slice (some ⟨g, 0, none⟩) xs.length cap ∧ base ≤ g ∧ g < W.heap.size ∧ xs.length ≤ cap := by
  have ho := Kd.own_of_R h
  rcases ho.2 with ⟨_, h1⟩ | ⟨g', cap', cur, hv, hg, hb, h1, h2, h3, h4⟩
  · omega
  · exact ⟨g', cap', hv, hg, blk_lt hb, h1⟩

/-- Sorted. -/
def sortI (l : List Int) : List Int := l.mergeSort fun x y => decide (x ≤ y)
theorem sortI_len (l : List Int) : (sortI l).length = l.length := List.length_mergeSort _
theorem sort_any {v : Value} {base : Nat} {xs : List Int} {w : World} (h : Kd.R (Kd.int .i64) 3 w base (fun _ => True) v xs) (hl : xs.length ≤ 1000) :
    Calls Tryd.prog 74 #[v] w fun e w' => e = .returned (.tuple #[]) ∧ Kd.R (Kd.int .i64) 3 w' base (fun _ => True) v (sortI xs) ∧ w.grownBy w' v.ownBlock := by
  by_cases h0 : 0 < xs.length
  · obtain ⟨g, cap, rfl, hg, hlt, hc⟩ := own_form h h0
    refine (Tryd.slices_Sort_int g 0 cap xs w (own_holds h) hlt (by omega)).mono ?_
    rintro e w' ⟨rfl, n, os, rfl⟩
    exact ⟨rfl, own_put h (sortI_len xs)⟩
  · have hnil : xs = [] := List.length_eq_zero_iff.1 (by omega)
    subst hnil
    obtain ⟨A, c, rfl, _, _⟩ := Kd.R_reads h
    refine (Tryd.slices_Sort_int_none A c w).mono ?_
    rintro e w' ⟨rfl, rfl⟩
    exact ⟨rfl, by rw [show sortI [] = [] by simp [sortI]]; exact h, World.grownBy.refl _ _⟩

end Go.Proofs.YtdbbcngmnpejnaaDoor.A

/- breed.joined: the parts of a set, walked. (Printed by gen_d4.py.) -/
namespace Go.Proofs.YtdbbcngmnpejnaaDoor.A
open Go.RowKit Go.Proofs.YtdbbcngmnpejnaaDoorW.PrintWords Go.Proofs.YtdbbcngmnpejnaaDoorW.PrintMore
theorem lowbit {x : Nat} (h0 : x ≠ 0) (h1 : x < 256) : bits .and .i64 (x : Int) (-(x : Int)) = ((2 ^ low x : Nat) : Int) := by
  have h := List.all_eq_true.1 low_two_and x (List.mem_range.2 h1)
  have e : IntKind.i64.wrap (-(x : Int)) = -(x : Int) := by rw [IntKind.wrap_i64]; omega
  rw [e, Bool.or_eq_true, decide_eq_true_iff, beq_iff_eq] at h
  exact h.resolve_left h0
theorem and_cast {a b : Nat} (ha : a < 256) (hb : b < 256) : bits .and .i64 (a : Int) (b : Int) = ((a &&& b : Nat) : Int) := and64 a b (by omega) (by omega)
theorem not_cast {a b : Nat} (ha : a < 256) (hb : b < 256) : bits .andNot .i64 (a : Int) (b : Int) = ((diffN a b : Nat) : Int) := andNot64 a b (by omega) (by omega)
theorem two_cast (i : Nat) : (2 : Int) ^ i = ((2 ^ i : Nat) : Int) := by rw [Int.natCast_pow]; rfl
theorem wrap_two {i : Nat} (h : i < 8) : IntKind.i64.wrap (2 ^ i) = ((2 ^ i : Nat) : Int) := by
  rw [two_cast]
  have := two_256 h
  generalize 2 ^ i = N at *
  exact wrap64_nat _ (by omega) (by omega)
theorem wrap64_two {i : Nat} (h : i < 8) : wrap64 (2 ^ i) = ((2 ^ i : Nat) : Int) := by
  rw [two_cast]
  have := two_256 h
  generalize 2 ^ i = N at *
  unfold wrap64
  omega
set_option maxRecDepth 100000 in
set_option maxHeartbeats 3200000 in
theorem joined_calls (A : Option Addr) (c : Nat) (l : List S44) (s : Nat) (hs : s < 256) (hl : ∀ t ∈ l, Tri8 t) (hn : l.length ≤ 1000) (W : World) (hr : Kd.C k44 W A l.length l) :
    Calls Tryd.prog 48 #[.slice A l.length c, .int .i64 (s : Int)] W fun e w' => ∃ v, e = .returned v ∧ (Kd.int .i64).R 3 w' W.heap.size (fun _ => True) v (joinedF l s) ∧ Below W.heap.size W w' := by
  have HR := Aside0.mk hr
  have HL := Aside0.mk hl
  obtain ⟨J, hJ⟩ : ∃ J, joinedF l s = J := ⟨_, rfl⟩
  have HJ : Aside0 (((partsJ l s 9 s).map fun p : Nat => (p : Int)).mergeSort (fun x y => decide (x ≤ y)) = J) := ⟨hJ⟩
  rw [hJ]
  obtain ⟨n, hnn⟩ : ∃ n, l.length = n := ⟨_, rfl⟩
  have HN := Aside0.mk hnn
  rw [hnn] at hn ⊢
  clear hr hl hJ hnn
  go_enter Tryd.func48, Tryd.ntmps48
  go_upto_region 3 with fail
  go_loopg [5, 6, 7, 8, 10, 11] 8 (fun gg v5 v6 _ _ _ _ wr => ∃ (f left : Nat) (vo : Value) (out : List Int), v6 = .int .i64 (left : Int) ∧ vo = v5 ∧ left < 256 ∧ pcN left 8 < f ∧ f ≤ 9 ∧ pcN left 8 ≤ gg ∧ out.length + f = 9 ∧ Aside0 ((Kd.int .i64).R 3 wr W.heap.size (fun _ => True) vo out) ∧ Aside0 ((out ++ (partsJ l s f left).map fun p : Nat => (p : Int)).mergeSort (fun x y => decide (x ≤ y)) = J) ∧ Aside0 (Below W.heap.size W wr))
  case atStart => exact ⟨9, s, _, [], rfl, rfl, hs, by have := pcN_le s 8; omega, Nat.le_refl _, pcN_le s 8, rfl, ⟨Kd.R_nil _ _ _ _ _⟩, ⟨by rw [List.nil_append]; exact HJ.out⟩, ⟨Below.refl _ _⟩⟩
  case round =>
    obtain ⟨f, left, vo, out, rfl, hvo, hl8, hpf, hf9, hpg, hof, HV, HE, HB⟩ := hrel
    rename World => w1
    subst hvo
    by_cases h0 : left = 0
    · subst h0
      have hz : ¬ (0 : Int) < ((0 : Nat) : Int) := by omega
      have HE2 : Aside0 (out.mergeSort (fun x y => decide (x ≤ y)) = J) := ⟨by
        have := HE.out
        obtain ⟨f', rfl⟩ : ∃ f', f = f' + 1 := ⟨f - 1, by omega⟩
        rwa [partsJ, if_pos rfl, List.map_nil, List.append_nil] at this⟩
      have HSO := Aside0.mk (sort_any HV.out (by omega))
      have HE3 : Aside0 (sortI out = J) := ⟨HE2.out⟩
      go_wp2_with (go_at_call 74; go_must (refine HSO.out.mono ?_; rintro e w5 ⟨rfl, hr5, hg5⟩; have HR5 := Aside0.mk hr5; have HG5 := Aside0.mk hg5; clear hr5 hg5))
      go_ret
      exact ⟨_, rfl, by rw [← HE3.out]; exact HR5.out, HB.out.grown HG5.out HB.out.size (fun j hj => Kd.R_base HV.out j hj)⟩
    · have hz : (0 : Int) < (left : Int) := by omega
      have hzn : 0 < left := by omega
      have hlb := lowbit h0 hl8
      have h1 : 2 ^ low left < 256 := two_256 (low_lt h0 hl8)
      obtain ⟨f', hf'⟩ : ∃ f', f = f' + 1 := ⟨f - 1, by omega⟩
      have HE2 : Aside0 ((out ++ ((growJ l s 9 (2 ^ low left) : Nat) : Int) :: (partsJ l s f' (diffN left (growJ l s 9 (2 ^ low left)))).map fun p : Nat => (p : Int)).mergeSort (fun x y => decide (x ≤ y)) = J) := ⟨by
        have := HE.out
        rwa [hf', partsJ, if_neg h0, List.map_cons] at this⟩
      have HPC := Aside0.mk (left_pc (l := l) (s := s) h0 hl8 9)
      obtain ⟨G, hG⟩ : ∃ G, growJ l s 9 (2 ^ low left) = G := ⟨_, rfl⟩
      rw [hG] at HE2 HPC
      have HG := Aside0.mk hG
      have hG8 : G < 256 := by rw [← hG]; exact grow_256 HL.out 9 _ h1
      obtain ⟨p0, hp0⟩ : ∃ p0, 2 ^ low left = p0 := ⟨_, rfl⟩
      rw [hp0] at h1 hlb HG
      clear hG hp0 HE
      go_upto_region 6 with fail
      go_loopg [7, 8, 10, 11] 18 (fun g2 v7 v8 _ _ w2 => ∃ (f2 part : Nat) (more : Bool), v7 = .int .i64 (part : Int) ∧ v8 = .bool more ∧ part < 256 ∧ f2 ≤ 9 ∧ (more = true → 8 < f2 + pcN part 8 ∧ Aside0 (growJ l s f2 part = G)) ∧ (more = false → Aside0 (part = G)) ∧ 2 * (8 - pcN part 8) + (if more = true then 1 else 0) ≤ g2 ∧ Aside0 (Below w1.heap.size w1 w2))
      case atStart => exact ⟨9, p0, true, rfl, rfl, h1, Nat.le_refl _, fun _ => ⟨by omega, HG⟩, fun h => (by cases h), by simp; omega, ⟨Below.refl _ _⟩⟩
      case round =>
        obtain ⟨f2, part, more, rfl, rfl, hp8, hf29, hmt, hmf, hgg, HB2⟩ := hrel
        rename World => w2
        cases more with
        | false =>
          have HPG := hmf rfl
          clear hmt hmf
          have hpg2 : part = G := HPG.out
          subst hpg2
          have hnt := not_cast hl8 hG8
          have HV2 := Aside0.mk (Kd.R_below HV.out HB2.out)
          have HB3 := Aside0.mk (below_then HB.out HB.out.size HB2.out)
          obtain ⟨A5, c5, hv5, _, _⟩ := Kd.R_reads HV2.out
          subst hv5
          go_wp2_with (at_builtin; go_must (refine Kd.R_append (Kd.int .i64) (w0 := W) W.heap.size rfl (.tmp 57) (.tmp 59) 32 3 (.int .i64 0) 8 rfl Tryd.underlying32 info3 rfl (by decide) (by decide) (.slice A5 out.length c5) out (part : Int) [.int .i64 (part : Int)] (fun _ => True) (fun _ => False) rfl rfl rfl (fun _ hk => hk.elim) (fun _ _ => trivial) HV2.out HB3.out HB3.out.size (by omega) ?_; intro v6 w6 ho hb6 _ _; have HO6 := Aside0.mk ho; have HB6 := Aside0.mk hb6; clear ho hb6))
          go_roundg (pcN (diffN left part) 8)
          case measure => have := HPC.out; omega
          case rel => exact ⟨f', _, _, _, rfl, rfl, diff_le left part (k := 8) hl8, by have := HPC.out; omega, by omega, Nat.le_refl _, by rw [List.length_append, List.length_singleton]; omega, HO6, ⟨by have := HE2.out; rwa [List.append_assoc]⟩, HB6⟩
        | true =>
          obtain ⟨hfp, HGR⟩ := hmt rfl
          clear hmt hmf
          obtain ⟨f3, hf3⟩ : ∃ f3, f2 = f3 + 1 := ⟨f2 - 1, by have := pcN_le part 8; omega⟩
          have HGR2 : Aside0 ((if moreJ l s part n = true then growJ l s f3 (passJ l s part n) else passJ l s part n) = G) := ⟨by
            have := HGR.out
            rw [hf3, growJ, HN.out] at this
            exact this⟩
          go_upto_region 9 with fail
          go_loopg [7, 8, 10, 11, 22] n (fun g3 v7 v8 _ _ v22 w3 => ∃ k : Nat, k ≤ n ∧ n - k ≤ g3 ∧ v22 = .int .i64 k ∧ v7 = .int .i64 ((passJ l s part k : Nat) : Int) ∧ v8 = .bool (moreJ l s part k) ∧ Aside0 (Below w1.heap.size w1 w3))
          case atStart => exact ⟨0, Nat.zero_le _, by omega, rfl, rfl, rfl, HB2⟩
          case round =>
            obtain ⟨k, hk, hg3, rfl, rfl, rfl, HB3⟩ := hrel
            rename World => w3
            by_cases hkn : k < n
            · have hkz : (k : Int) < (n : Int) := by omega
              have hkl : k < l.length := by rw [HN.out]; exact hkn
              obtain ⟨ad, had, hx0, hx1, hx2⟩ := at_T44 (Kd.C_below HR.out (HB.out.trans (HB3.out.mono HB.out.size))) (k : Int) (by omega) (by omega)
              subst had
              rw [Int.toNat_natCast] at hx0 hx1 hx2
              have hrd : rd_T44 l (k : Int) = l.getD k z44 := by simp only [rd_T44, Int.toNat_natCast]
              rw [hrd] at hx0 hx1 hx2
              have ht8 := HL.out _ (getD_mem z44 hkl)
              have HPS : Aside0 (passJ l s part (k + 1) = stepJ s (passJ l s part k) (l.getD k z44)) := ⟨rfl⟩
              have HMS : Aside0 (moreJ l s part (k + 1) = (moreJ l s part k || condJ s (passJ l s part k) (l.getD k z44))) := ⟨rfl⟩
              have hpk8 : passJ l s part k < 256 := pass_256 HL.out hp8 k (by rw [HN.out]; exact hk)
              generalize l.getD k z44 = t at hx0 hx1 hx2 ht8 HPS HMS
              obtain ⟨ha8, hb8, hc8⟩ := tri_lt ht8
              have hpa := pair_256 ht8
              have hal := all_256 ht8
              obtain ⟨⟨h00, _⟩, ⟨h10, _⟩, ⟨h20, _⟩⟩ := ht8
              obtain ⟨t0, t1, t2⟩ := t
              dsimp only at hx0 hx1 hx2 h00 h10 h20
              obtain ⟨a, rfl⟩ := Int.eq_ofNat_of_zero_le h00
              obtain ⟨b, rfl⟩ := Int.eq_ofNat_of_zero_le h10
              obtain ⟨cc, rfl⟩ := Int.eq_ofNat_of_zero_le h20
              have ea : S44.a ⟨(a : Int), (b : Int), (cc : Int)⟩ = a := rfl
              have eb : S44.b ⟨(a : Int), (b : Int), (cc : Int)⟩ = b := rfl
              have ec : S44.c ⟨(a : Int), (b : Int), (cc : Int)⟩ = cc := rfl
              rw [ea] at ha8
              rw [eb] at hb8
              rw [ec] at hc8
              clear hrd h00 h10 h20
              go_upto_region 11 with fail
              have HNEW : Aside0 ((w3.alloc (.cells #[.int .i64 (a : Int), .int .i64 (b : Int), .int .i64 (cc : Int)] 44)).heap[w3.heap.size]? = some (.cells #[.int .i64 (a : Int), .int .i64 (b : Int), .int .i64 (cc : Int)] 44 (0, 0))) := ⟨heap_alloc_new w3 _⟩
              have HB4 : Aside0 (Below w1.heap.size w1 (w3.alloc (.cells #[.int .i64 (a : Int), .int .i64 (b : Int), .int .i64 (cc : Int)] 44))) := ⟨below_alloc HB3.out _⟩
              generalize w3.alloc (.cells #[.int .i64 (a : Int), .int .i64 (b : Int), .int .i64 (cc : Int)] 44) = w4 at HNEW HB4 ⊢
              generalize w3.heap.size = gb at HNEW ⊢
              obtain ⟨SS, hSS⟩ : ∃ SS : World → Prop, SS = (fun w' => w'.cell? ⟨gb, 0, none⟩ = some (.int .i64 (a : Int)) ∧ w'.cell? ⟨gb, 1, none⟩ = some (.int .i64 (b : Int)) ∧ w'.cell? ⟨gb, 2, none⟩ = some (.int .i64 (cc : Int))) := ⟨_, rfl⟩
              have HSS : Aside0 (SS w4.drew) := ⟨by rw [hSS]; exact ⟨(cells3 HNEW.out).1, (cells3 HNEW.out).2.1, (cells3 HNEW.out).2.2.1⟩⟩
              have HSO : Aside0 (∀ w', SS w' → w'.cell? ⟨gb, 0, none⟩ = some (.int .i64 (a : Int)) ∧ w'.cell? ⟨gb, 1, none⟩ = some (.int .i64 (b : Int)) ∧ w'.cell? ⟨gb, 2, none⟩ = some (.int .i64 (cc : Int))) := ⟨fun w' h => by rw [hSS] at h; exact h⟩
              clear hSS hx0 hx1 hx2
              refine wp_region_noPanic ?_
              refine wp_region_held_drew (S := SS) (by kernel_rfl) HSS.out (fun hHeld => ?_)
              refine H_on 0 26 ?vj0 rfl rfl (by kernel_rfl) (by kernel_rfl) (by kernel_rfl) (by rfl) ?hj0 hHeld ?rj0
              case hj0 => (intro w hSw; obtain ⟨s0, s1, s2⟩ := HSO.out w hSw; go_simp <;> with_reducible rfl)
              simp only [Act.put, List.setIfInBounds_toArray, List.set_cons_zero, List.set_cons_succ]
              refine H_on 1 27 ?vj1 rfl rfl (by kernel_rfl) (by kernel_rfl) (by kernel_rfl) (by rfl) ?hj1 hHeld ?rj1
              case hj1 => (intro w hSw; obtain ⟨s0, s1, s2⟩ := HSO.out w hSw; go_simp <;> with_reducible rfl)
              simp only [Act.put, List.setIfInBounds_toArray, List.set_cons_zero, List.set_cons_succ]
              refine H_on 2 28 ?vj2 rfl rfl (by kernel_rfl) (by kernel_rfl) (by kernel_rfl) (by rfl) ?hj2 hHeld ?rj2
              case hj2 => (intro w hSw; obtain ⟨s0, s1, s2⟩ := HSO.out w hSw; go_simp <;> with_reducible rfl)
              simp only [Act.put, List.setIfInBounds_toArray, List.set_cons_zero, List.set_cons_succ]
              refine H_on 3 29 ?vj3 rfl rfl (by kernel_rfl) (by kernel_rfl) (by kernel_rfl) (by rfl) ?hj3 hHeld ?rj3
              case hj3 => (intro w hSw; obtain ⟨s0, s1, s2⟩ := HSO.out w hSw; go_simp <;> with_reducible rfl)
              simp only [Act.put, List.setIfInBounds_toArray, List.set_cons_zero, List.set_cons_succ]
              refine H_on 4 30 ?vj4 rfl rfl (by kernel_rfl) (by kernel_rfl) (by kernel_rfl) (by rfl) ?hj4 hHeld ?rj4
              case hj4 => (intro w hSw; obtain ⟨s0, s1, s2⟩ := HSO.out w hSw; go_simp <;> with_reducible rfl)
              simp only [Act.put, List.setIfInBounds_toArray, List.set_cons_zero, List.set_cons_succ]
              refine H_on 5 31 ?vj5 rfl rfl (by kernel_rfl) (by kernel_rfl) (by kernel_rfl) (by rfl) ?hj5 hHeld ?rj5
              case hj5 => (intro w hSw; obtain ⟨s0, s1, s2⟩ := HSO.out w hSw; go_simp <;> with_reducible rfl)
              simp only [Act.put, List.setIfInBounds_toArray, List.set_cons_zero, List.set_cons_succ]
              refine H_on 6 32 ?vj6 rfl rfl (by kernel_rfl) (by kernel_rfl) (by kernel_rfl) (by rfl) ?hj6 hHeld ?rj6
              case hj6 => (intro w hSw; obtain ⟨s0, s1, s2⟩ := HSO.out w hSw; go_simp <;> with_reducible rfl)
              simp only [Act.put, List.setIfInBounds_toArray, List.set_cons_zero, List.set_cons_succ]
              refine H_on 7 11 ?vj7 rfl rfl (by kernel_rfl) (by kernel_rfl) (by kernel_rfl) (by rfl) ?hj7 hHeld ?rj7
              case hj7 => (intro w hSw; obtain ⟨s0, s1, s2⟩ := HSO.out w hSw; go_simp <;> with_reducible rfl)
              simp only [Act.put, List.setIfInBounds_toArray, List.set_cons_zero, List.set_cons_succ]
              refine wpAnyH_done (by kernel_rfl) ?_ _
              refine NoPanic.normal ?_
              clear hHeld HSS HSO
              have hwa := wrap_two ha8
              have hwb := wrap_two hb8
              have hwc := wrap_two hc8
              have hwd := wrap64_two hc8
              have hP : bits .or .i64 (IntKind.i64.wrap (2 ^ a)) (IntKind.i64.wrap (2 ^ b)) = ((pairN ⟨(a : Int), (b : Int), (cc : Int)⟩ : Nat) : Int) := by rw [hwa, hwb]; exact low_or (two_256 ha8) (two_256 hb8)
              rw [hP]
              have hC8 := two_256 hc8
              have hQ : allN ⟨(a : Int), (b : Int), (cc : Int)⟩ = pairN ⟨(a : Int), (b : Int), (cc : Int)⟩ ||| 2 ^ cc := rfl
              have HCD : Aside0 (condJ s (passJ l s part k) ⟨(a : Int), (b : Int), (cc : Int)⟩ = (hasB (allN ⟨(a : Int), (b : Int), (cc : Int)⟩) s && decide (pairN ⟨(a : Int), (b : Int), (cc : Int)⟩ &&& passJ l s part k ≠ 0) && decide (diffN (pairN ⟨(a : Int), (b : Int), (cc : Int)⟩) (passJ l s part k) ≠ 0))) := ⟨rfl⟩
              have HSJ : Aside0 (stepJ s (passJ l s part k) ⟨(a : Int), (b : Int), (cc : Int)⟩ = if condJ s (passJ l s part k) ⟨(a : Int), (b : Int), (cc : Int)⟩ = true then passJ l s part k ||| pairN ⟨(a : Int), (b : Int), (cc : Int)⟩ else passJ l s part k) := ⟨rfl⟩
              clear hP hwa hwb ea eb ec ha8 hb8
              generalize stepJ s (passJ l s part k) ⟨(a : Int), (b : Int), (cc : Int)⟩ = stp at HPS HSJ
              generalize condJ s (passJ l s part k) ⟨(a : Int), (b : Int), (cc : Int)⟩ = cnd at HMS HCD HSJ
              generalize pairN ⟨(a : Int), (b : Int), (cc : Int)⟩ = P at hpa hQ HCD HSJ ⊢
              generalize allN ⟨(a : Int), (b : Int), (cc : Int)⟩ = Q at hal hQ HCD
              have hq := low_or hpa hC8
              rw [← hQ] at hq
              have hd1 := not_cast hal hs
              have hd2 := and_cast hpa hpk8
              have hd3 := not_cast hpa hpk8
              have hd4 := low_or hpk8 hpa
              generalize moreJ l s part k = mk at HMS ⊢
              generalize passJ l s part k = pk at HPS HCD HSJ hpk8 hd2 hd3 hd4 ⊢
              generalize ((2 ^ cc : Nat) : Int) = C at hwc hwd hq
              obtain ⟨_, _, c2, _⟩ := cells3 HNEW.out
              clear hQ hpa hC8 hpk8
              have hno : cnd = false → Aside0 (passJ l s part (k + 1) = pk) ∧ Aside0 (moreJ l s part (k + 1) = mk) := fun h => by
                have h1 := HSJ.out
                have h2 := HMS.out
                rw [h, if_neg Bool.false_ne_true] at h1
                rw [h, Bool.or_false] at h2
                exact ⟨⟨HPS.out.trans h1⟩, ⟨h2⟩⟩
              have hyes : cnd = true → Aside0 (passJ l s part (k + 1) = pk ||| P) ∧ Aside0 (moreJ l s part (k + 1) = true) := fun h => by
                have h1 := HSJ.out
                have h2 := HMS.out
                rw [h, if_pos rfl] at h1
                rw [h, Bool.or_true] at h2
                exact ⟨⟨HPS.out.trans h1⟩, ⟨h2⟩⟩
              clear HPS HMS HSJ
              have HBD : Aside0 (Below w1.heap.size w1 w4.drew) := ⟨below_drew HB4.out⟩
              by_cases e1 : diffN Q s = 0
              · rw [e1] at hd1
                by_cases e2 : P &&& pk = 0
                · rw [e2] at hd2
                  obtain ⟨HN1, HN2⟩ := hno (by rw [HCD.out, decide_eq_false (fun h => h e2), Bool.and_false, Bool.false_and])
                  clear hno hyes HCD hd3 hd4 e1 e2
                  go_wp2
                  go_roundg (n - (k + 1))
                  case measure => omega
                  case rel => exact ⟨k + 1, by omega, by omega, by go_num, by rw [HN1.out], by rw [HN2.out], HBD⟩
                · have e2b : (((P &&& pk : Nat) : Int) != 0) = true := by rw [bne_iff_ne]; omega
                  by_cases e3 : diffN P pk = 0
                  · rw [e3] at hd3
                    obtain ⟨HN1, HN2⟩ := hno (by rw [HCD.out, decide_eq_false (show ¬ (diffN P pk ≠ 0) from fun h => h e3), Bool.and_false])
                    generalize ((P &&& pk : Nat) : Int) = D2 at hd2 e2b
                    clear hno hyes HCD hd4 e1 e2 e3
                    go_wp2
                    go_roundg (n - (k + 1))
                    case measure => omega
                    case rel => exact ⟨k + 1, by omega, by omega, by go_num, by rw [HN1.out], by rw [HN2.out], HBD⟩
                  · have e3b : (((diffN P pk : Nat) : Int) != 0) = true := by rw [bne_iff_ne]; omega
                    obtain ⟨HN1, HN2⟩ := hyes (by rw [HCD.out, diff_zero.mp e1, decide_eq_true (show P &&& pk ≠ 0 from e2), decide_eq_true (show diffN P pk ≠ 0 from e3)]; rfl)
                    generalize ((P &&& pk : Nat) : Int) = D2 at hd2 e2b
                    generalize ((diffN P pk : Nat) : Int) = D3 at hd3 e3b
                    clear hno hyes HCD e1 e2 e3
                    go_wp2
                    go_roundg (n - (k + 1))
                    case measure => omega
                    case rel => exact ⟨k + 1, by omega, by omega, by go_num, by rw [HN1.out], by rw [HN2.out], HBD⟩
              · have e1b : (((diffN Q s : Nat) : Int) == 0) = false := by rw [beq_eq_false_iff_ne]; omega
                obtain ⟨HN1, HN2⟩ := hno (by
                  rw [HCD.out]
                  cases e : hasB Q s with
                  | false => rfl
                  | true => exact absurd (diff_zero.mpr e) e1)
                generalize ((diffN Q s : Nat) : Int) = D1 at hd1 e1b
                clear hno hyes HCD e1 hd2 hd3 hd4
                go_wp2
                go_roundg (n - (k + 1))
                case measure => omega
                case rel => exact ⟨k + 1, by omega, by omega, by go_num, by rw [HN1.out], by rw [HN2.out], HBD⟩
            · have hkz : ¬ (k : Int) < (n : Int) := by omega
              have hkn2 : k = n := by omega
              have HPE : Aside0 (passJ l s part k = passJ l s part n) := ⟨by rw [hkn2]⟩
              have HME : Aside0 (moreJ l s part k = moreJ l s part n) := ⟨by rw [hkn2]⟩
              rw [hkn2]
              cases hm : moreJ l s part n with
              | true =>
                have HGR3 : Aside0 (growJ l s f3 (passJ l s part n) = G) := ⟨by have := HGR2.out; rwa [hm, if_pos rfl] at this⟩
                have hpc : pcN part 8 < pcN (passJ l s part n) 8 := by
                  have h := more_pc (l := l) (s := s) (part := part) HL.out (by rw [HN.out]; exact hm)
                  rwa [HN.out] at h
                have hp9 : passJ l s part n < 256 := pass_256 HL.out hp8 n (by rw [HN.out]; exact Nat.le_refl _)
                have hpx := pcN_le (passJ l s part n) 8
                generalize passJ l s part n = pn at *
                clear HPE HME
                go_wp2
                go_roundg (2 * (8 - pcN pn 8) + 1)
                case measure => simp at hgg; omega
                case rel => exact ⟨f3, pn, true, rfl, rfl, hp9, by omega, fun _ => ⟨by omega, HGR3⟩, fun h => (by cases h), by simp, HB3⟩
              | false =>
                have HGR3 : Aside0 (passJ l s part n = G) := ⟨by have := HGR2.out; rwa [hm, if_neg Bool.false_ne_true] at this⟩
                have hp9 : passJ l s part n < 256 := pass_256 HL.out hp8 n (by rw [HN.out]; exact Nat.le_refl _)
                have hpc : pcN part 8 ≤ pcN (passJ l s part n) 8 := pcN_mono (pass_sub l s part n) 8
                generalize passJ l s part n = pn at *
                clear HPE HME
                go_wp2
                go_roundg (2 * (8 - pcN pn 8))
                case measure => simp at hgg; omega
                case rel => exact ⟨f3, pn, false, rfl, rfl, hp9, by omega, fun h => (by cases h), fun _ => HGR3, by simp, HB3⟩
end Go.Proofs.YtdbbcngmnpejnaaDoor.A

/- breed.build, walked. -/
namespace Go.Proofs.YtdbbcngmnpejnaaDoor.A
open Go.RowKit Go.Proofs.YtdbbcngmnpejnaaDoorW.PrintWords Go.Proofs.YtdbbcngmnpejnaaDoorW.PrintMore
/-- A tree that is handed back, or nil. -/
def TreePost (Z : Option BT) (W : World) (e : Ending) (w' : World) : Prop :=
  ((Z = none ∧ e = .returned .nilIface) ∨ ∃ (t : BT) (v : Value), Z = some t ∧ e = .returned v ∧ TrV w' (fun b => W.heap.size ≤ b) v t) ∧ Below W.heap.size W w'
/-- A family, as of hands it back, is the one of the trees in their order. -/
theorem family_of {W w' : World} {lo g cap n base : Nat} {xs ys : List TT} (hlo : lo ≤ g) (hR : kT.R 69 w' base (fun _ => True) (.slice (some ⟨g, 0, none⟩) n cap) ys) (hn : n = ys.length) (hgr : W.grownBy w' (some g)) (hok : ∀ x ∈ xs, TOk W (fun b => lo ≤ b ∧ b ≠ g) x) (hp : ys.Perm xs) :
    TrV w' (fun b => lo ≤ b) (.iface 111 (.agg #[.int .i64 ((BT.sets (ys.map (·.2)) : Nat) : Int), .slice (some ⟨g, 0, none⟩) n cap])) (.node (ys.map (·.2))) := by
  subst hn
  obtain ⟨cs, hb⟩ := Kd.R_typed hR g rfl
  refine trv_node.mpr ⟨g, cap, by rw [List.length_map], by rw [List.length_map]; exact (Kd.R_reads' hR).2.1, ⟨hlo, YtdbbcngmnpejnaaDoorW.PrintWords.blk_lt hb⟩, fun i k hi => ?_⟩
  rw [List.getElem?_map] at hi
  obtain ⟨y, hy, rfl⟩ := Option.map_eq_some_iff.mp hi
  have hil := (List.getElem?_eq_some_iff.mp hy).1
  obtain ⟨ad, had, hx0⟩ := ReadsOf.at_ (Kd.reads_of_C (d := default) (Kd.R_reads' hR).2.2) (i : Int) (by omega) (by omega)
  cases had
  rw [Int.toNat_natCast, YtdbbcngmnpejnaaDoorW.PrintWords.add_plain] at hx0
  have hrd : rdOf default ys (i : Int) = y := by simp [rdOf, List.getD_eq_getElem?_getD, hy]
  rw [hrd] at hx0
  have ht := (hok y (hp.mem_iff.mp (List.mem_of_getElem? hy)))
  exact ⟨_, hx0, (ht.move (ok' := fun b => lo ≤ b) hgr.size (fun b hb hl => hgr.block b hl (fun e => hb.2 (by cases e; rfl))) fun b hb _ => hb.1).1⟩
/-- Trees in the order of their least beasts: there is but one such order. -/
theorem order_one {ts us : List BT} (h1 : ts.Pairwise fun a b => low a.set < low b.set) (h2 : us.Pairwise fun a b => low a.set ≤ low b.set) (hp : us.Perm ts) : us = ts := by
  induction ts generalizing us with
  | nil => exact List.Perm.eq_nil hp
  | cons t ts ih =>
    rw [List.pairwise_cons] at h1
    cases us with
    | nil => exact absurd hp.length_eq (by simp)
    | cons u us =>
      rw [List.pairwise_cons] at h2
      have e : u = t := by
        rcases List.mem_cons.mp (hp.mem_iff.mp List.mem_cons_self) with a | a
        · exact a
        · have h3 := h1.1 u a
          rcases List.mem_cons.mp (hp.mem_iff.mpr (List.mem_cons_self (a := t) (l := ts))) with b | b
          · exact b.symm
          · have := h2.1 t b; omega
      subst e
      rw [ih h1.2 h2.2 (List.Perm.cons_inv hp)]

set_option maxRecDepth 100000 in
set_option maxHeartbeats 3200000 in
theorem build_step (A : Option Addr) (c : Nat) (l : List S44) (hl : ∀ t ∈ l, Tri8 t) (hn : l.length ≤ 1000) (f : Nat)
    (IH : ∀ s W, s ≠ 0 → s < 256 → pcN s 8 < f → Kd.C k44 W A l.length l → TabAt W → Calls Tryd.prog 44 #[.slice A l.length c, .int .i64 (s : Int)] W (TreePost (buildF l f s) W))
    (s : Nat) (W : World) (h0 : s ≠ 0) (h8 : s < 256) (hf : pcN s 8 < f + 1) (hr : Kd.C k44 W A l.length l) (hT : TabAt W) :
    Calls Tryd.prog 44 #[.slice A l.length c, .int .i64 (s : Int)] W (TreePost (buildF l (f + 1) s) W) := by
  have HR := Aside0.mk hr
  have HL := Aside0.mk hl
  have HT := Aside0.mk hT
  have HIH := Aside0.mk IH
  obtain ⟨Z, hZ⟩ : ∃ Z, buildF l (f + 1) s = Z := ⟨_, rfl⟩
  have HZ : Aside0 ((if s &&& (s - 1) = 0 then some (.leaf (low s)) else if (partsF l s).length = 1 then none else (mapO (buildF l f) (partsF l s)).map .node) = Z) := ⟨by rw [← hZ, buildF]⟩
  rw [hZ]
  have HZ0 := Aside0.mk hZ
  have HTW : Aside0 (1 < W.heap.size) := ⟨World.block_lt_of_cell? W _ (hT 0 (by decide))⟩
  have hand := and_cast (a := s) (b := s - 1) h8 (by omega)
  have hs1 : ((s - 1 : Nat) : Int) = (s : Int) - 1 := by omega
  rw [hs1] at hand
  have HJ := Aside0.mk (joined_calls A c l s h8 hl hn W hr)
  have HONE := Aside0.mk (one_iff s h8 h0)
  obtain ⟨n, hnn⟩ : ∃ n, l.length = n := ⟨_, rfl⟩
  have HN := Aside0.mk hnn
  rw [hnn] at HJ hn ⊢
  clear hr hl hT IH hZ hnn
  by_cases h1 : s &&& (s - 1) = 0
  · have HZ1 : Aside0 (some (.leaf (low s)) = Z) := ⟨by have := HZ.out; rwa [if_pos h1] at this⟩
    have HS := Aside0.mk (HONE.out.mp h1)
    rw [h1] at hand
    clear h1
    go_enter Tryd.func44, Tryd.ntmps44
    go_wp2
    go_ret
    refine ⟨Or.inr ⟨_, _, HZ1.out.symm, rfl, trv_leaf.mpr ?_⟩, Below.refl _ _⟩
    rw [← HS.out]
    rfl
  · have hab : (((s &&& (s - 1) : Nat) : Int) == 0) = false := by rw [beq_eq_false_iff_ne]; omega
    have HZ1 : Aside0 ((if (partsF l s).length = 1 then none else (mapO (buildF l f) (partsF l s)).map .node) = Z) := ⟨by have := HZ.out; rwa [if_neg h1] at this⟩
    clear h1 HZ HONE
    generalize ((s &&& (s - 1) : Nat) : Int) = sa at hand hab
    go_enter Tryd.func44, Tryd.ntmps44
    go_upto_region 4 with (go_at_call 48; go_must (refine HJ.out.mono ?_; rintro e w1 ⟨v1, rfl, hR1, hb1⟩; have HR1 := Aside0.mk hR1; have HB1 := Aside0.mk hb1; clear hR1 hb1))
    have HJP : Aside0 ((joinedF l s).Perm ((partsF l s).map fun p : Nat => (p : Int))) := ⟨List.mergeSort_perm _ _⟩
    have hml : (joinedF l s).length = (partsF l s).length := by rw [HJP.out.length_eq, List.length_map]
    have hm8 : (joinedF l s).length ≤ 8 := by
      have h := asc_len (m := 8) ((partsF l s).map low) 0 (by rw [List.pairwise_map]; exact (parts_spec HL.out h8).apart.imp fun h => h.2) (fun x hx => by
        obtain ⟨p, hp, rfl⟩ := List.mem_map.mp hx
        exact ⟨Nat.zero_le _, low_lt ((parts_spec HL.out h8).ne p hp) (lt_of_bits (k := 8) fun i hi => bit_lt (k := 8) h8 ((parts_spec HL.out h8).sub p hp i hi))⟩) (by decide)
      rw [List.length_map] at h
      omega
    have hm1 : 1 ≤ (joinedF l s).length := by
      rw [hml]
      have : (partsF l s).length ≠ 0 := fun e => by
        obtain ⟨i, hi⟩ := ne_bit h0
        obtain ⟨p, hp, _⟩ := (parts_spec HL.out h8).all i hi
        rw [List.length_eq_zero_iff.mp e] at hp; cases hp
      omega
    obtain ⟨A1, c1, hv1, _, hC1⟩ := Kd.R_reads HR1.out
    subst hv1
    have HC1 := Aside0.mk hC1
    obtain ⟨m, hm⟩ : ∃ m, (joinedF l s).length = m := ⟨_, rfl⟩
    rw [hm] at hm8 hm1 HC1 hml ⊢
    have HM := Aside0.mk hm
    have HML := Aside0.mk hml
    clear hC1 hm
    by_cases h1 : m = 1
    · have HZ2 : Aside0 (none = Z) := ⟨by have := HZ1.out; rwa [if_pos (by omega)] at this⟩
      have hme : ((m : Int) == 1) = true := by rw [beq_iff_eq]; omega
      clear h1 hm1 hm8 hml
      go_wp2
      go_ret
      exact ⟨Or.inl ⟨HZ2.out.symm, rfl⟩, HB1.out⟩
    · have HZ2 : Aside0 ((mapO (buildF l f) (partsF l s)).map .node = Z) := ⟨by have := HZ1.out; rwa [if_neg (by omega)] at this⟩
      have hme : ((m : Int) == 1) = false := by rw [beq_eq_false_iff_ne]; omega
      have hm2 : 2 ≤ m := by omega
      have HPL : Aside0 (∀ p ∈ partsF l s, pcN p 8 < f) := ⟨fun p hp => by
        have := part_less HL.out h8 hp (by omega)
        omega⟩
      have HPS : Aside0 (∀ p ∈ partsF l s, p ≠ 0 ∧ p < 256) := ⟨fun p hp => ⟨(parts_spec HL.out h8).ne p hp, lt_of_bits (k := 8) fun i hi => bit_lt (k := 8) h8 ((parts_spec HL.out h8).sub p hp i hi)⟩⟩
      clear h1 hm1 HZ1 hml
      go_upto_region 8 with fail
      go_loopg [6, 8, 9, 26] m (fun gg v6 _ _ v26 wr => ∃ (k : Nat) (vo : Value) (xs : List TT), k ≤ m ∧ m - k ≤ gg ∧ v26 = .int .i64 k ∧ vo = v6 ∧ xs.length = k ∧ Aside0 (kT.R 69 wr w1.heap.size (fun _ => True) vo xs) ∧ Aside0 (∀ i, i < k → buildF l f ((joinedF l s).getD i 0).toNat = some (xs.getD i default).2) ∧ Aside0 (∀ x ∈ xs, TOk wr (fun b => W.heap.size ≤ b ∧ some b ≠ vo.ownBlock) x) ∧ Aside0 (Below w1.heap.size w1 wr))
      case atStart => exact ⟨0, _, [], Nat.zero_le _, by omega, rfl, rfl, rfl, ⟨Kd.R_nil _ _ _ _ _⟩, ⟨fun i h => absurd h (Nat.not_lt_zero _)⟩, ⟨fun x h => (by cases h)⟩, ⟨Below.refl _ _⟩⟩
      case round =>
        obtain ⟨k, vo, xs, hk, hgg, rfl, hvo, hxk, HV, HBX, HOK, HB⟩ := hrel
        subst hvo
        by_cases hkm : k < m
        · have hkz : (k : Int) < (m : Int) := by omega
          obtain ⟨ad, had, hx0⟩ := Kd.at_int (Kd.C_below HC1.out HB.out) (k : Int) (by omega) (by omega)
          subst had
          rw [Int.toNat_natCast] at hx0
          have hrd : rd (joinedF l s) (k : Int) = (joinedF l s).getD k 0 := by simp [rd]
          have hmem : (joinedF l s).getD k 0 ∈ joinedF l s := getD_mem 0 (by rw [HM.out]; exact hkm)
          obtain ⟨p, hp, hpe⟩ := List.mem_map.mp (HJP.out.mem_iff.mp hmem)
          rw [hrd, ← hpe] at hx0
          have HPE : Aside0 (((joinedF l s).getD k 0).toNat = p) := ⟨by rw [← hpe]; rfl⟩
          have hWr : Below W.heap.size W wr := below_then HB1.out HB1.out.size HB.out
          have hcall := HIH.out p wr (HPS.out p hp).1 (HPS.out p hp).2 (HPL.out p hp) (Kd.C_below HR.out hWr) (HT.out.next hWr)
          rw [HN.out] at hcall
          have HWR := Aside0.mk hWr
          have HPM := Aside0.mk hp
          have hp8 := HPS.out p hp
          clear hrd hmem hp hpe hWr
          cases hb : buildF l f p with
          | none =>
            rw [hb] at hcall
            have HC : Aside0 (Calls Tryd.prog 44 #[.slice A n c, .int .i64 (p : Int)] wr fun e w' => e = .returned .nilIface ∧ Below wr.heap.size wr w') := ⟨hcall.mono (by
              rintro e w' ⟨⟨_, rfl⟩ | ⟨t, v, h, _⟩, hb⟩
              · exact ⟨rfl, hb⟩
              · cases h)⟩
            have HZ3 : Aside0 (none = Z) := ⟨by have := HZ2.out; rwa [mapO_none.mpr ⟨p, HPM.out, hb⟩] at this⟩
            clear hcall hb
            go_wp2_with (go_at_call 44; go_must (refine HC.out.mono ?_; rintro e w5 ⟨rfl, hb5⟩; have HB5 := Aside0.mk (below_then HWR.out HWR.out.size hb5); clear hb5))
            go_ret
            exact ⟨Or.inl ⟨HZ3.out.symm, rfl⟩, HB5.out⟩
          | some t =>
            rw [hb] at hcall
            have HC : Aside0 (Calls Tryd.prog 44 #[.slice A n c, .int .i64 (p : Int)] wr fun e w' => ∃ v, e = .returned v ∧ TrV w' (fun b => wr.heap.size ≤ b) v t ∧ Below wr.heap.size wr w') := ⟨hcall.mono (by
              rintro e w' ⟨⟨h, _⟩ | ⟨t', v, h, rfl, ht⟩, hb⟩
              · cases h
              · cases h; exact ⟨v, rfl, ht, hb⟩)⟩
            have HBP := Aside0.mk hb
            have HGT := Aside0.mk (build_good HL.out f p t hp8.1 hp8.2 hb).1
            clear hcall hb
            have hxm : xs.length ≤ 8 := by omega
            have hown : ∀ g, vo.ownBlock = some g → g < wr.heap.size := fun g hg => by
              obtain ⟨cs, h⟩ := Kd.R_typed HV.out g hg
              exact YtdbbcngmnpejnaaDoorW.PrintWords.blk_lt h
            have HOWN := Aside0.mk hown
            obtain ⟨A6, c6, hv6, _, _⟩ := Kd.R_reads HV.out
            rw [hxk] at hv6
            subst hv6
            clear hown
            go_wp2_with (first
              | (go_at_call 44; go_must (refine HC.out.mono ?_; rintro e w5 ⟨v5, rfl, htv, hb5⟩; obtain ⟨T, u, rfl, _⟩ := htv.ask; have HTV := Aside0.mk htv; have HB5 := Aside0.mk hb5; have HBW5 := Aside0.mk (below_then HB.out HB.out.size hb5); have HV5 := Aside0.mk (Kd.R_below HV.out hb5); obtain ⟨x, hx2, hxe⟩ := htv.tok; have HX2 := Aside0.mk hx2; have HXE := Aside0.mk hxe; clear htv hb5 hx2 hxe))
              | (at_builtin; go_must (refine Kd.R_append kT (w0 := w1) w1.heap.size rfl (.tmp 35) (.tmp 37) 79 69 .nilIface 16 rfl Tryd.underlying79 info69 rfl (by decide) (by decide) (.slice A6 k c6) xs x [.iface T u] (fun _ => True) (fun _ => False) rfl rfl (by rw [← HXE.out]; rfl) (fun _ hk => hk.elim) (fun _ _ => trivial) HV5.out HBW5.out HBW5.out.size (by omega) ?_; intro v6 w6 ho hb6 hg6 hat6; have HO6 := Aside0.mk ho; have HB6 := Aside0.mk hb6; have HG6 := Aside0.mk hg6; have HAT6 := Aside0.mk hat6; clear ho hb6 hg6 hat6)))
            go_roundg (m - (k + 1))
            case measure => omega
            case rel =>
              refine ⟨k + 1, _, xs ++ [x], by omega, by omega, by go_num, rfl, by rw [List.length_append, List.length_singleton]; omega, HO6, ⟨fun i hi => ?_⟩, ⟨fun y hy => ?_⟩, HB6⟩
              · by_cases e : i < k
                · rw [HBX.out i e, List.getD_eq_getElem?_getD, List.getD_eq_getElem?_getD, List.getElem?_append_left (by omega)]
                · have e2 : i = k := by omega
                  subst e2
                  rw [HPE.out, HBP.out, List.getD_eq_getElem?_getD, List.getElem?_append_right (by omega), hxk, Nat.sub_self]
                  show some t = some x.2
                  rw [HX2.out]
              · have hgw : w5.heap.size ≤ w6.heap.size := HG6.out.size
                have hne : ∀ b, b < w5.heap.size → some b ≠ (Value.slice A6 k c6).ownBlock → some b ≠ v6.ownBlock := fun b hb hn e => by
                  rcases HAT6.out with h | ⟨b', h, hb'⟩
                  · rw [h] at e; exact hn e
                  · rw [h] at e; cases e; omega
                rcases List.mem_append.mp hy with hy | hy
                · exact ((HOK.out y hy).below HB5.out).move hgw (fun b hb hl => HG6.out.block b hl hb.2) fun b hb hl => ⟨hb.1, hne b hl hb.2⟩
                · rw [List.mem_singleton.mp hy]
                  have hx5 : TOk w5 (fun b => wr.heap.size ≤ b) x := ⟨by rw [HXE.out, HX2.out]; exact HTV.out, by rw [HX2.out]; exact HGT.out.small⟩
                  have hap : ∀ b, wr.heap.size ≤ b → some b ≠ (Value.slice A6 k c6).ownBlock := fun b hb e => by have := HOWN.out b e.symm; omega
                  exact hx5.move hgw (fun b hb hl => HG6.out.block b hl (hap b hb)) fun b hb hl => ⟨Nat.le_trans HWR.out.size hb, hne b hl (hap b hb)⟩
        · have hkz : ¬ (k : Int) < (m : Int) := by omega
          have hkm2 : k = m := by omega
          subst hkm2
          obtain ⟨g, cap, hv6, _⟩ := Kd.R_form HV.out (by omega)
          rw [hxk] at hv6
          subst hv6
          have hgb : w1.heap.size ≤ g := Kd.R_base HV.out g rfl
          have hWr : Below W.heap.size W wr := below_then HB1.out HB1.out.size HB.out
          have hg1 : g ≠ 1 := by have := HTW.out; have := HB1.out.size; omega
          have hOK2 : ∀ x ∈ xs, TOk wr (fun b => W.heap.size ≤ b ∧ b ≠ g) x := fun x hx => (HOK.out x hx).move (Nat.le_refl _) (fun _ _ _ => rfl) fun b hb _ => ⟨hb.1, fun e => hb.2 (by rw [e]; rfl)⟩
          have hOF := of_many HV.out hxk.symm (fun x hx => (hOK2 x hx).move (Nat.le_refl _) (fun _ _ _ => rfl) fun b hb _ => hb.2) (HT.out.next hWr) hg1 (by omega) (by omega)
          have HOF := Aside0.mk hOF
          have HOK2 := Aside0.mk hOK2
          have HWR := Aside0.mk hWr
          -- the plain tree
          have HTS : Aside0 (∃ ts, Z = some (.node ts) ∧ ts.Perm (xs.map (·.2)) ∧ ts.Pairwise fun a b => low a.set < low b.set) := ⟨by
            have hnn : mapO (buildF l f) (partsF l s) ≠ none := fun e => by
              obtain ⟨p, hp, hb⟩ := mapO_none.mp e
              have hpm : ((p : Nat) : Int) ∈ joinedF l s := HJP.out.mem_iff.mpr (List.mem_map.mpr ⟨p, hp, rfl⟩)
              obtain ⟨i, hi, he⟩ := List.getElem_of_mem hpm
              have h2 := HBX.out i (by rw [HM.out] at hi; exact hi)
              rw [List.getD_eq_getElem?_getD, List.getElem?_eq_getElem hi, he] at h2
              rw [show ((some ((p : Nat) : Int)).getD 0).toNat = p from rfl, hb] at h2
              cases h2
            cases hts : mapO (buildF l f) (partsF l s) with
            | none => exact absurd hts hnn
            | some ts =>
              have hZ := HZ2.out
              rw [hts] at hZ
              have hm := mapO_some.mp hts
              have hxs : (joinedF l s).map (fun i => buildF l f i.toNat) = (xs.map (·.2)).map some := by
                refine List.ext_getElem (by rw [List.length_map, List.length_map, List.length_map, HM.out, hxk]) fun i h1 h2 => ?_
                rw [List.length_map] at h1
                have h3 := HBX.out i (by rw [HM.out] at h1; exact h1)
                have h4 : i < xs.length := by simpa using h2
                rw [List.getD_eq_getElem?_getD, List.getElem?_eq_getElem h1, List.getD_eq_getElem?_getD, List.getElem?_eq_getElem h4] at h3
                simpa using h3
              have hpm : ((partsF l s).map (buildF l f)).Perm ((joinedF l s).map fun i => buildF l f i.toNat) := by
                have := (HJP.out.map fun i => buildF l f i.toNat).symm
                rw [List.map_map] at this
                exact this
              rw [hm, hxs] at hpm
              have hpm2 := hpm.filterMap id
              rw [List.filterMap_map, List.filterMap_map] at hpm2
              simp at hpm2
              have hgd := (build_good HL.out (f + 1) s (.node ts) h0 h8 (HZ0.out.trans hZ.symm)).1
              exact ⟨ts, hZ.symm, by simpa using hpm2, (good_node.mp hgd).2.2.imp fun h => h.2⟩⟩
          clear hOF hOK2 hWr
          go_wp2_with (go_at_call 70; go_must (refine HOF.out.mono ?_; rintro e w7 ⟨ys, rfl, hp, hs, hR, hg⟩; have HP := Aside0.mk hp; have HSS := Aside0.mk hs; have HR7 := Aside0.mk hR; have HG7 := Aside0.mk hg; clear hp hs hR hg))
          go_ret
          obtain ⟨ts, hZ, hpt, hpw⟩ := HTS.out
          have hyt : ys.map (·.2) = ts := order_one hpw (by rw [List.pairwise_map]; exact HSS.out) ((HP.out.map _).trans hpt.symm)
          refine ⟨Or.inr ⟨.node (ys.map (·.2)), .iface 111 (.agg #[.int .i64 ((BT.sets (ys.map (·.2)) : Nat) : Int), .slice (some ⟨g, 0, none⟩) k cap]), by rw [hyt]; exact hZ, rfl, family_of (Nat.le_trans HB1.out.size hgb) HR7.out (by rw [HP.out.length_eq]; exact hxk.symm) HG7.out HOK2.out HP.out⟩, HWR.out.grown HG7.out HWR.out.size (fun j hj => by cases hj; exact Nat.le_trans HB1.out.size hgb)⟩
/-- breed.build. -/
theorem build_calls (A : Option Addr) (c : Nat) (l : List S44) (hl : ∀ t ∈ l, Tri8 t) (hn : l.length ≤ 1000) : ∀ f s W, s ≠ 0 → s < 256 → pcN s 8 < f → Kd.C k44 W A l.length l → TabAt W → Calls Tryd.prog 44 #[.slice A l.length c, .int .i64 (s : Int)] W (TreePost (buildF l f s) W)
  | 0, _, _, _, _, h, _, _ => absurd h (Nat.not_lt_zero _)
  | f + 1, s, W, h0, h8, h, hr, hT => build_step A c l hl hn f (fun s W h0 h8 hf hr hT => build_calls A c l hl hn f s W h0 h8 hf hr hT) s W h0 h8 h hr hT
end Go.Proofs.YtdbbcngmnpejnaaDoor.A

/- The tree of those of a tree's beasts that are in a set, plain. -/
namespace Go.Proofs.YtdbbcngmnpejnaaDoor.A
/-- Trees in the order of their least beasts. -/
def sortB (ts : List BT) : List BT := ts.mergeSort fun a b => decide (low a.set ≤ low b.set)
/-- One tree of some: none, the only one, or a family. -/
def ofB : List BT → Option BT
  | [] => none
  | [t] => some t
  | t :: u :: ts => some (.node (sortB (t :: u :: ts)))
mutual
def BT.kept (s : Nat) : BT → Option BT
  | .leaf i => if 2 ^ i &&& s = 0 then none else some (.leaf i)
  | .node ks => ofB (BT.keptL s ks)
def BT.keptL (s : Nat) : List BT → List BT
  | [] => []
  | k :: ks => match k.kept s with
    | none => BT.keptL s ks
    | some t => t :: BT.keptL s ks
end
theorem keptL_snoc (s : Nat) (k : BT) : ∀ ks : List BT, BT.keptL s (ks ++ [k]) = BT.keptL s ks ++ (match k.kept s with | none => [] | some t => [t])
  | [] => by rw [List.nil_append, BT.keptL, BT.keptL]; cases k.kept s <;> rfl
  | x :: ks => by
    rw [List.cons_append, BT.keptL, BT.keptL, keptL_snoc s k ks]
    cases x.kept s with
    | none => rfl
    | some t => rfl
theorem keptL_mem {s : Nat} {t : BT} : ∀ {ks : List BT}, t ∈ BT.keptL s ks ↔ ∃ k ∈ ks, k.kept s = some t
  | [] => by rw [BT.keptL]; simp
  | k :: ks => by
    rw [BT.keptL]
    have ih := keptL_mem (s := s) (t := t) (ks := ks)
    cases h : k.kept s with
    | none => simp only []; rw [ih]; simp [h]
    | some u =>
      simp only [List.mem_cons, exists_eq_or_imp, h, ih, Option.some.injEq]
      constructor
      · rintro (e | e)
        · exact .inl e.symm
        · exact .inr e
      · rintro (e | e)
        · exact .inl e.symm
        · exact .inr e
theorem sortB_perm (ts : List BT) : (sortB ts).Perm ts := List.mergeSort_perm _ _
theorem sortB_sorted (ts : List BT) : (sortB ts).Pairwise fun a b => low a.set ≤ low b.set := by
  have h := List.pairwise_mergeSort (le := fun a b : BT => decide (low a.set ≤ low b.set)) (fun a b c h1 h2 => by
    rw [decide_eq_true_iff] at *; omega) (fun a b => by
    rw [Bool.or_eq_true, decide_eq_true_iff, decide_eq_true_iff]; omega) ts
  exact h.imp fun h => of_decide_eq_true h
/-- Sorted by the least beasts, apart trees ascend strictly. -/
theorem sortB_strict {ts : List BT} (hg : ∀ t ∈ ts, t.Good) (hd : ts.Pairwise fun a b => a.set &&& b.set = 0) : (sortB ts).Pairwise fun a b => a.set &&& b.set = 0 ∧ low a.set < low b.set := by
  have hd2 : (sortB ts).Pairwise fun a b => a.set &&& b.set = 0 := hd.perm (sortB_perm ts).symm fun h => by rw [Nat.and_comm]; exact h
  refine List.Pairwise.imp_of_mem ?_ (hd2.and (sortB_sorted ts))
  intro a b ha hb h
  have hga := hg a ((sortB_perm ts).mem_iff.mp ha)
  have hgb := hg b ((sortB_perm ts).mem_iff.mp hb)
  refine ⟨h.1, ?_⟩
  rcases Nat.lt_or_ge (low a.set) (low b.set) with h2 | h2
  · exact h2
  · exfalso
    have e : low a.set = low b.set := by have := h.2; omega
    have h3 := disj_iff.mp h.1 _ (low_bit (good_ne hga) (good_256 hga))
    rw [e, low_bit (good_ne hgb) (good_256 hgb)] at h3
    cases h3
theorem sets_perm {a b : List BT} (h : a.Perm b) : BT.sets a = BT.sets b := Nat.eq_of_testBit_eq fun i => by
  have : (BT.sets a).testBit i = true ↔ (BT.sets b).testBit i = true := by
    rw [sets_bit, sets_bit]
    exact ⟨fun ⟨k, hk, hi⟩ => ⟨k, h.mem_iff.mp hk, hi⟩, fun ⟨k, hk, hi⟩ => ⟨k, h.mem_iff.mpr hk, hi⟩⟩
  cases h1 : (BT.sets a).testBit i with
  | true => rw [this.mp h1]
  | false => cases h2 : (BT.sets b).testBit i with
    | false => rfl
    | true => rw [this.mpr h2] at h1; cases h1
theorem ofB_good {ts : List BT} (hg : ∀ t ∈ ts, t.Good) (hd : ts.Pairwise fun a b => a.set &&& b.set = 0) {t : BT} (h : ofB ts = some t) : t.Good ∧ t.set = BT.sets ts := by
  match ts, hg, hd, h with
  | [x], hg, _, h =>
    cases h
    exact ⟨hg _ List.mem_cons_self, by rw [BT.sets, BT.sets, Nat.or_zero]⟩
  | x :: y :: r, hg, hd, h =>
    cases h
    refine ⟨good_node.mpr ⟨?_, fun k hk => hg k ((sortB_perm _).mem_iff.mp hk), sortB_strict hg hd⟩, ?_⟩
    · rw [(sortB_perm _).length_eq]; simp
    · rw [set_node]; exact sets_perm (sortB_perm _)
/-- What is kept is a good tree of the beasts that are in both. -/
theorem kept_spec (s : Nat) (t : BT) : t.Good → (∀ u, t.kept s = some u → u.Good ∧ u.set = t.set &&& s) ∧ (t.kept s = none → t.set &&& s = 0) := by
  refine BT.ind (P := fun t => t.Good → (∀ u, t.kept s = some u → u.Good ∧ u.set = t.set &&& s) ∧ (t.kept s = none → t.set &&& s = 0)) (fun i hi => ?_) (fun ks ih hg => ?_) t
  · rw [BT.kept, set_leaf]
    by_cases h : 2 ^ i &&& s = 0
    · rw [if_pos h]
      exact ⟨fun u hu => (by cases hu), fun _ => h⟩
    · rw [if_neg h]
      refine ⟨fun u hu => ?_, fun hu => (by cases hu)⟩
      cases hu
      refine ⟨hi, ?_⟩
      rw [set_leaf]
      obtain ⟨j, h1, h2⟩ := meet_iff.mp h
      rw [two_bit, decide_eq_true_iff] at h1
      subst h1
      refine Nat.eq_of_testBit_eq fun j => ?_
      rw [Nat.testBit_and, two_bit]
      by_cases e : i = j
      · subst e; rw [h2]; simp
      · simp [e]
  · obtain ⟨h2, hks, hp⟩ := good_node.mp hg
    rw [BT.kept, set_node]
    have hl : ∀ l : List BT, (∀ k ∈ l, k ∈ ks) → (l.Pairwise fun a b => a.set &&& b.set = 0) → (∀ t ∈ BT.keptL s l, t.Good) ∧ (BT.keptL s l).Pairwise (fun a b => a.set &&& b.set = 0) ∧ BT.sets (BT.keptL s l) = BT.sets l &&& s := by
      intro l
      induction l with
      | nil => intro _ _; rw [BT.keptL, BT.sets]; exact ⟨fun t h => (by cases h), List.Pairwise.nil, (Nat.zero_and s).symm⟩
      | cons k l ihl =>
        intro hm hpw
        rw [List.pairwise_cons] at hpw
        obtain ⟨g1, g2, g3⟩ := ihl (fun x hx => hm x (List.mem_cons_of_mem _ hx)) hpw.2
        obtain ⟨k1, k2⟩ := ih k (hm k List.mem_cons_self) (hks k (hm k List.mem_cons_self))
        rw [BT.keptL, BT.sets, Nat.and_or_distrib_right, ← g3]
        cases hk : k.kept s with
        | none => exact ⟨g1, g2, by rw [k2 hk, Nat.zero_or]⟩
        | some u =>
          obtain ⟨u1, u2⟩ := k1 u hk
          refine ⟨fun t ht => ?_, ?_, by rw [BT.sets, u2]⟩
          · rcases List.mem_cons.mp ht with e | e
            · rw [e]; exact u1
            · exact g1 t e
          · rw [List.pairwise_cons]
            refine ⟨fun t ht => disj_iff.mpr fun i hi => ?_, g2⟩
            rw [u2, Nat.testBit_and, Bool.and_eq_true] at hi
            cases e : t.set.testBit i with
            | false => rfl
            | true =>
              have h3 : (BT.sets l).testBit i = true := by
                have : (BT.sets (BT.keptL s l)).testBit i = true := sets_bit.mpr ⟨t, ht, e⟩
                rw [g3, Nat.testBit_and, Bool.and_eq_true] at this
                exact this.1
              obtain ⟨x, hx, hxi⟩ := sets_bit.mp h3
              rw [disj_iff.mp (hpw.1 x hx) i hi.1] at hxi; cases hxi
    obtain ⟨g1, g2, g3⟩ := hl ks (fun _ h => h) (hp.imp fun h => h.1)
    refine ⟨fun u hu => ?_, fun hn => ?_⟩
    · obtain ⟨h3, h4⟩ := ofB_good g1 g2 hu
      exact ⟨h3, by rw [h4, g3]⟩
    · cases hkl : BT.keptL s ks with
      | nil => rw [← g3, hkl, BT.sets]
      | cons a r => rw [hkl] at hn; cases r <;> cases hn
theorem keptL_len (s : Nat) : ∀ ks : List BT, (BT.keptL s ks).length ≤ ks.length
  | [] => by rw [BT.keptL]; exact Nat.le_refl _
  | k :: ks => by
    have ih := keptL_len s ks
    rw [BT.keptL]
    cases k.kept s with
    | none => simp only [List.length_cons]; omega
    | some t => simp only [List.length_cons]; omega
theorem keptL_good {s : Nat} {ks : List BT} (hg : (BT.node ks).Good) : ∀ t ∈ BT.keptL s ks, t.Good := fun t ht => by
  obtain ⟨_, hks, _⟩ := good_node.mp hg
  obtain ⟨k, hk, e⟩ := keptL_mem.mp ht
  exact ((kept_spec s k (hks k hk)).1 t e).1
theorem keptL_disj (s : Nat) : ∀ {ks : List BT}, (∀ k ∈ ks, k.Good) → (ks.Pairwise fun a b => a.set &&& b.set = 0) → (BT.keptL s ks).Pairwise fun a b => a.set &&& b.set = 0
  | [], _, _ => by rw [BT.keptL]; exact List.Pairwise.nil
  | k :: ks, hg, hp => by
    rw [List.pairwise_cons] at hp
    have ih := keptL_disj s (fun x hx => hg x (List.mem_cons_of_mem _ hx)) hp.2
    rw [BT.keptL]
    cases hk : k.kept s with
    | none => exact ih
    | some u =>
      refine List.pairwise_cons.mpr ⟨fun t ht => ?_, ih⟩
      obtain ⟨x, hx, hxt⟩ := keptL_mem.mp ht
      have h1 := ((kept_spec s k (hg k List.mem_cons_self)).1 u hk).2
      have h2 := ((kept_spec s x (hg x (List.mem_cons_of_mem _ hx))).1 t hxt).2
      refine disj_iff.mpr fun i hi => ?_
      rw [h1, Nat.testBit_and, Bool.and_eq_true] at hi
      rw [h2, Nat.testBit_and, disj_iff.mp (hp.1 x hx) i hi.1]
      rfl
end Go.Proofs.YtdbbcngmnpejnaaDoor.A

/- A tree as it is read, plain. -/
namespace Go.Proofs.YtdbbcngmnpejnaaDoor.A
/-- May a tree stand behind those that have been read? -/
def nextOk (l : List BT) (all : Nat) (t : BT) : Bool := decide (t.set &&& all = 0) && (l.isEmpty || decide (low ((l.getLast?).getD default).set < low t.set))
mutual
/-- A tree at the head of a text, and what is behind it. (The number bounds how deep one may go.) -/
def readP : Nat → List UInt8 → Option (BT × List UInt8)
  | 0, _ => none
  | _ + 1, [] => none
  | f + 1, c :: L => if 48 ≤ c.toNat ∧ c.toNat ≤ 55 then some (.leaf (c.toNat - 48), L) else if c.toNat = 40 then loopP f [] 0 L else none
def loopP : Nat → List BT → Nat → List UInt8 → Option (BT × List UInt8)
  | 0, _, _, _ => none
  | f + 1, l, all, L => match readP f L with
    | none => none
    | some (t, L') => if nextOk l all t = true then (match L' with
        | [] => none
        | c :: L2 => if c.toNat = 41 then (if 1 < (l ++ [t]).length then some (.node (l ++ [t]), L2) else none) else if c.toNat = 44 then loopP f (l ++ [t]) (all ||| t.set) L2 else none) else none
end
/-- Trees that have been read: good, apart, ascending. -/
def ReadL (l : List BT) (all : Nat) : Prop := (∀ t ∈ l, t.Good) ∧ (l.Pairwise fun a b => a.set &&& b.set = 0 ∧ low a.set < low b.set) ∧ all = BT.sets l
theorem read_nil : ReadL [] 0 := ⟨fun t h => (by cases h), List.Pairwise.nil, by rw [BT.sets]⟩
theorem read_next {l : List BT} {all : Nat} {t : BT} (h : ReadL l all) (hg : t.Good) (hn : nextOk l all t = true) : ReadL (l ++ [t]) (all ||| t.set) := by
  obtain ⟨h1, h2, h3⟩ := h
  unfold nextOk at hn
  rw [Bool.and_eq_true, decide_eq_true_iff, Bool.or_eq_true, decide_eq_true_iff] at hn
  refine ⟨fun x hx => ?_, ?_, ?_⟩
  · rcases List.mem_append.mp hx with e | e
    · exact h1 x e
    · rw [List.mem_singleton.mp e]; exact hg
  · refine List.pairwise_append.mpr ⟨h2, List.pairwise_singleton _ _, fun a ha b hb => ?_⟩
    rw [List.mem_singleton.mp hb]
    refine ⟨disj_iff.mpr fun i hi => ?_, ?_⟩
    · cases e : t.set.testBit i with
      | false => rfl
      | true =>
        have := disj_iff.mp hn.1 i e
        rw [h3, sets_bit.mpr ⟨a, ha, hi⟩] at this; cases this
    · rcases hn.2 with e | e
      · rw [List.isEmpty_iff.mp e] at ha; cases ha
      · -- the last one is the greatest
        have hl : l ≠ [] := fun e2 => by rw [e2] at ha; cases ha
        rw [List.getLast?_eq_some_getLast hl, Option.getD_some] at e
        have : low a.set ≤ low (l.getLast hl).set := by
          rw [List.pairwise_iff_getElem] at h2
          obtain ⟨i, hi, e2⟩ := List.getElem_of_mem ha
          rw [List.getLast_eq_getElem, ← e2]
          by_cases e3 : i = l.length - 1
          · subst e3; exact Nat.le_refl _
          · exact Nat.le_of_lt (h2 i (l.length - 1) hi (by omega) (by omega)).2
        omega
  · rw [h3, sets_append, BT.sets, BT.sets, Nat.or_zero]
theorem read_goods : ∀ f, (∀ L t L', readP f L = some (t, L') → t.Good ∧ L'.length < L.length) ∧ ∀ l all L t L', ReadL l all → loopP f l all L = some (t, L') → t.Good ∧ L'.length < L.length
  | 0 => ⟨fun L t L' h => (by rw [readP] at h; cases h), fun l all L t L' _ h => (by rw [loopP] at h; cases h)⟩
  | f + 1 => by
    obtain ⟨ih1, ih2⟩ := read_goods f
    refine ⟨fun L t L' h => ?_, fun l all L t L' hr h => ?_⟩
    · cases L with
      | nil => rw [readP] at h; cases h
      | cons c L =>
        rw [readP] at h
        split at h
        · rename_i hc
          cases h
          exact ⟨by rw [BT.Good]; omega, by simp⟩
        · split at h
          · have := ih2 _ _ _ _ _ read_nil h
            exact ⟨this.1, by rw [List.length_cons]; omega⟩
          · cases h
    · rw [loopP] at h
      cases hp : readP f L with
      | none => rw [hp] at h; cases h
      | some q =>
        obtain ⟨u, L1⟩ := q
        rw [hp] at h
        dsimp only at h
        obtain ⟨hu, hl1⟩ := ih1 _ _ _ hp
        split at h
        · rename_i hn
          have hr2 := read_next hr hu hn
          cases L1 with
          | nil => cases h
          | cons c L2 =>
            dsimp only at h
            rw [List.length_cons] at hl1
            split at h
            · split at h
              · rename_i h1
                cases h
                exact ⟨good_node.mpr ⟨h1, hr2.1, hr2.2.1⟩, by omega⟩
              · cases h
            · split at h
              · have := ih2 _ _ _ _ _ hr2 h
                exact ⟨this.1, by omega⟩
              · cases h
        · cases h
end Go.Proofs.YtdbbcngmnpejnaaDoor.A

/- What is read is a tree's text, and a good tree's text is read as the tree, plain. -/
namespace Go.Proofs.YtdbbcngmnpejnaaDoor.A
open Go
theorem join_one (sep x : List UInt8) : Lib.join [x] sep = x := by simp [Lib.join]
theorem join_cons (sep x y : List UInt8) (ys : List (List UInt8)) : Lib.join (x :: y :: ys) sep = x ++ sep ++ Lib.join (y :: ys) sep := by simp [Lib.join, List.intercalate_cons_cons]
theorem u8_eq {c : UInt8} {n : Nat} (h : c.toNat = n) : c = UInt8.ofNat n := by rw [← h]; exact (UInt8.ofNat_toNat).symm
theorem text_leaf (i : Nat) : (BT.leaf i).text = [UInt8.ofNat (48 + i)] := by rw [BT.text]
theorem text_node (ks : List BT) : (BT.node ks).text = 40 :: (Lib.join (ks.map BT.text) [44] ++ [41]) := by rw [BT.text, texts_map]
/-- What is read is the tree's text. -/
theorem read_sound : ∀ f, (∀ L t L', readP f L = some (t, L') → L = t.text ++ L') ∧ ∀ l all L t L', loopP f l all L = some (t, L') → ∃ r, r ≠ [] ∧ t = .node (l ++ r) ∧ L = Lib.join (r.map BT.text) [44] ++ 41 :: L'
  | 0 => ⟨fun L t L' h => (by rw [readP] at h; cases h), fun l all L t L' h => (by rw [loopP] at h; cases h)⟩
  | f + 1 => by
    obtain ⟨ih1, ih2⟩ := read_sound f
    refine ⟨fun L t L' h => ?_, fun l all L t L' h => ?_⟩
    · cases L with
      | nil => rw [readP] at h; cases h
      | cons c L =>
        rw [readP] at h
        split at h
        · rename_i hc
          cases h
          rw [text_leaf, show 48 + (c.toNat - 48) = c.toNat by omega, UInt8.ofNat_toNat]
          rfl
        · split at h
          · rename_i hc
            obtain ⟨r, _, ht, hL⟩ := ih2 _ _ _ _ _ h
            rw [List.nil_append] at ht
            rw [ht, text_node, u8_eq hc, hL]
            simp
          · cases h
    · rw [loopP] at h
      cases hp : readP f L with
      | none => rw [hp] at h; cases h
      | some q =>
        obtain ⟨u, L1⟩ := q
        rw [hp] at h
        dsimp only at h
        have hL := ih1 _ _ _ hp
        split at h
        · cases L1 with
          | nil => cases h
          | cons c L2 =>
            dsimp only at h
            split at h
            · rename_i hc
              split at h
              · cases h
                exact ⟨[u], by simp, rfl, by rw [hL, u8_eq hc, List.map_cons, List.map_nil, join_one]; rfl⟩
              · cases h
            · split at h
              · rename_i hc
                obtain ⟨r, hr, ht, hL2⟩ := ih2 _ _ _ _ _ h
                refine ⟨u :: r, by simp, by rw [ht, List.append_assoc]; rfl, ?_⟩
                cases r with
                | nil => exact absurd rfl hr
                | cons v r =>
                  rw [hL, hL2, u8_eq hc]
                  simp only [List.map_cons]
                  rw [join_cons, List.append_assoc, List.append_assoc]
                  rfl
              · cases h
        · cases h
end Go.Proofs.YtdbbcngmnpejnaaDoor.A

/- The reference's reader, plain: it reads the digits of n beasts alone; for trees of n beasts it is the program's. -/
namespace Go.Proofs.YtdbbcngmnpejnaaDoor.A
mutual
def readQ (n : Nat) : Nat → List UInt8 → Option (BT × List UInt8)
  | 0, _ => none
  | _ + 1, [] => none
  | f + 1, c :: L => if 48 ≤ c.toNat ∧ c.toNat - 48 < n then some (.leaf (c.toNat - 48), L) else if c.toNat = 40 then loopQ n f [] 0 L else none
def loopQ (n : Nat) : Nat → List BT → Nat → List UInt8 → Option (BT × List UInt8)
  | 0, _, _, _ => none
  | f + 1, l, all, L => match readQ n f L with
    | none => none
    | some (t, L') => if nextOk l all t = true then (match L' with
        | [] => none
        | c :: L2 => if c.toNat = 41 then (if 1 < (l ++ [t]).length then some (.node (l ++ [t]), L2) else none) else if c.toNat = 44 then loopQ n f (l ++ [t]) (all ||| t.set) L2 else none) else none
end
/-- What the reference reads, the program reads. -/
theorem readQ_P {n : Nat} (hn : n ≤ 8) : ∀ f, (∀ L r, readQ n f L = some r → readP f L = some r) ∧ ∀ l all L r, loopQ n f l all L = some r → loopP f l all L = some r
  | 0 => ⟨fun L r h => (by rw [readQ] at h; cases h), fun l all L r h => (by rw [loopQ] at h; cases h)⟩
  | f + 1 => by
    obtain ⟨ih1, ih2⟩ := readQ_P hn f
    refine ⟨fun L r h => ?_, fun l all L r h => ?_⟩
    · cases L with
      | nil => rw [readQ] at h; cases h
      | cons c L =>
        rw [readQ] at h
        rw [readP]
        by_cases h1 : 48 ≤ c.toNat ∧ c.toNat - 48 < n
        · rw [if_pos h1] at h
          rw [if_pos (by omega)]
          exact h
        · rw [if_neg h1] at h
          by_cases h2 : c.toNat = 40
          · rw [if_pos h2] at h
            rw [if_neg (by omega), if_pos h2]
            exact ih2 _ _ _ _ h
          · rw [if_neg h2] at h; cases h
    · rw [loopQ] at h
      rw [loopP]
      cases hq : readQ n f L with
      | none => rw [hq] at h; cases h
      | some q =>
        obtain ⟨t, L'⟩ := q
        rw [hq] at h
        rw [ih1 _ _ hq]
        dsimp only at h ⊢
        by_cases h1 : nextOk l all t = true
        · rw [if_pos h1] at h ⊢
          cases L' with
          | nil => cases h
          | cons c L2 =>
            dsimp only at h ⊢
            by_cases h2 : c.toNat = 41
            · rw [if_pos h2] at h ⊢; exact h
            · rw [if_neg h2] at h ⊢
              by_cases h3 : c.toNat = 44
              · rw [if_pos h3] at h ⊢; exact ih2 _ _ _ _ h
              · rw [if_neg h3] at h; cases h
        · rw [if_neg h1] at h; cases h
theorem loopP_has {f : Nat} {l : List BT} {all : Nat} {L : List UInt8} {t : BT} {L' : List UInt8} (h : loopP f l all L = some (t, L')) {k : BT} (hk : k ∈ l) {i : Nat} (hi : k.set.testBit i = true) : t.set.testBit i = true := by
  obtain ⟨r, _, rfl, _⟩ := (read_sound f).2 _ _ _ _ _ h
  rw [set_node, sets_bit]
  exact ⟨k, List.mem_append_left _ hk, hi⟩
/-- A tree of n beasts that the program reads, the reference reads. -/
theorem readP_Q {n : Nat} : ∀ f, (∀ L t L', readP f L = some (t, L') → (∀ i, t.set.testBit i = true → i < n) → readQ n f L = some (t, L')) ∧ ∀ l all L t L', loopP f l all L = some (t, L') → (∀ i, t.set.testBit i = true → i < n) → loopQ n f l all L = some (t, L')
  | 0 => ⟨fun L t L' h => (by rw [readP] at h; cases h), fun l all L t L' h => (by rw [loopP] at h; cases h)⟩
  | f + 1 => by
    obtain ⟨ih1, ih2⟩ := readP_Q (n := n) f
    refine ⟨fun L t L' h hb => ?_, fun l all L t L' h hb => ?_⟩
    · cases L with
      | nil => rw [readP] at h; cases h
      | cons c L =>
        rw [readP] at h
        rw [readQ]
        by_cases h1 : 48 ≤ c.toNat ∧ c.toNat ≤ 55
        · rw [if_pos h1] at h
          have hlt : c.toNat - 48 < n := by
            cases h
            exact hb _ (by rw [set_leaf, two_bit]; simp)
          rw [if_pos ⟨h1.1, hlt⟩]
          exact h
        · rw [if_neg h1] at h
          by_cases h2 : c.toNat = 40
          · rw [if_pos h2] at h
            rw [if_neg (by omega), if_pos h2]
            exact ih2 _ _ _ _ _ h hb
          · rw [if_neg h2] at h; cases h
    · rw [loopP] at h
      rw [loopQ]
      cases hq : readP f L with
      | none => rw [hq] at h; cases h
      | some q =>
        obtain ⟨u, L1⟩ := q
        rw [hq] at h
        dsimp only at h
        by_cases h1 : nextOk l all u = true
        · rw [if_pos h1] at h
          cases L1 with
          | nil => cases h
          | cons c L2 =>
            dsimp only at h
            by_cases h2 : c.toNat = 41
            · rw [if_pos h2] at h
              by_cases h3 : 1 < (l ++ [u]).length
              · rw [if_pos h3] at h
                have hu : ∀ i, u.set.testBit i = true → i < n := fun i hi => by
                  cases h
                  exact hb i (by rw [set_node, sets_bit]; exact ⟨u, by simp, hi⟩)
                rw [ih1 _ _ _ hq hu]
                dsimp only
                rw [if_pos h1, if_pos h2, if_pos h3]
                exact h
              · rw [if_neg h3] at h; cases h
            · rw [if_neg h2] at h
              by_cases h3 : c.toNat = 44
              · rw [if_pos h3] at h
                have hu : ∀ i, u.set.testBit i = true → i < n := fun i hi => hb i (loopP_has h (k := u) (by simp) hi)
                rw [ih1 _ _ _ hq hu]
                dsimp only
                rw [if_pos h1, if_neg h2, if_pos h3]
                exact ih2 _ _ _ _ _ h hb
              · rw [if_neg h3] at h; cases h
        · rw [if_neg h1] at h; cases h
end Go.Proofs.YtdbbcngmnpejnaaDoor.A

/- The reader's take, as the kit's print writes it. -/
namespace Go.Proofs.YtdbbcngmnpejnaaDoor.B
open Go.Proofs.YtdbbcngmnpejnaaDoor.A
open Go.RowKit Go.Proofs.YtdbbcngmnpejnaaDoorW.PrintWords Go.Proofs.YtdbbcngmnpejnaaDoorW.PrintLast Go.Proofs.YtdbbcngmnpejnaaDoorW.PrintMore
section
attribute [local go_sem] max2_int min2_int max_two min_two max_three min_three max_four min_four   -- for this text's walks alone
set_option linter.unusedVariables false
set_option linter.unusedSimpArgs false
def IsS116 (w0 W : World) (g : Nat) (f0 : ByteArray) (f1 : Bool) : Prop := W.heap[g]? = some (.cells #[.string f0, .bool f1] 116 (0, 0)) ∧ w0.heap.size ≤ g
theorem IsS116.ge {w0 W : World} {g : Nat} {f0 : ByteArray} {f1 : Bool} (h : IsS116 w0 W g f0 f1) : w0.heap.size ≤ g := by
  obtain ⟨hb, hg⟩ := h
  exact hg
theorem cellS116_0 {W : World} {g : Nat} {f0 : ByteArray} {f1 : Bool} (h : W.heap[g]? = some (.cells #[.string f0, .bool f1] 116 (0, 0))) : W.cell? ⟨g, 0, none⟩ = some (.string f0) := (blk_cell h 0).trans rfl
theorem IsS116.set_0 {w0 W : World} {g : Nat} {f0 : ByteArray} {f1 : Bool} (h : IsS116 w0 W g f0 f1) (x : ByteArray) : IsS116 w0 (W.setCell ⟨g, 0, none⟩ (.string x)) g x f1 := by
  obtain ⟨hb, hg⟩ := h
  exact ⟨by simpa using blk_set hb 0 (.string x), hg⟩
theorem cellS116_1 {W : World} {g : Nat} {f0 : ByteArray} {f1 : Bool} (h : W.heap[g]? = some (.cells #[.string f0, .bool f1] 116 (0, 0))) : W.cell? ⟨g, 1, none⟩ = some (.bool f1) := (blk_cell h 1).trans rfl
theorem IsS116.set_1 {w0 W : World} {g : Nat} {f0 : ByteArray} {f1 : Bool} (h : IsS116 w0 W g f0 f1) (x : Bool) : IsS116 w0 (W.setCell ⟨g, 1, none⟩ (.bool x)) g f0 x := by
  obtain ⟨hb, hg⟩ := h
  exact ⟨by simpa using blk_set hb 1 (.bool x), hg⟩
/-! ### breed_reader_take: function 84 -/
def breed_reader_take.f (s0_0 : ByteArray) (s0_1 : Bool) : Option (Int × ByteArray × Bool) := if s0_0.toList = ([] : List UInt8) then (some (0, s0_0, false)) else (if 0 < (s0_0.size : Int) then (if 1 ≤ (s0_0.size : Int) then (some (bt s0_0 0, s0_0.extract 1 s0_0.size, s0_1)) else (none)) else (none))
set_option maxHeartbeats 8000000 in
set_option maxRecDepth 100000 in
theorem breed_reader_take.calls (g : Nat) (s0_0 : ByteArray) (s0_1 : Bool) (r1 : Int) (r2 : ByteArray) (r3 : Bool) (w0 w : World) (hI : IsS116 w0 w g s0_0 s0_1) (hB : Below w0.heap.size w0 w) (h : breed_reader_take.f s0_0 s0_1 = some (r1, r2, r3)) :
    Calls Tryd.prog 84 #[.pointer (some ⟨g, 0, none⟩)] w fun e w' => e = .returned (.int .u8 r1) ∧ IsS116 w0 w' g r2 r3 ∧ Below w0.heap.size w0 w' ∧ KeepBut w w' g none := by
  have HI0 := Aside0.mk hI
  have HK := Aside0.mk (KeepBut.refl w g none)
  have HL := Aside0.mk hB.size
  clear hI
  have HW0 := Aside0.mk hB.size
  have HB := Aside0.mk hB
  clear hB
  have H : (if s0_0.toList = ([] : List UInt8) then (some (0, s0_0, false)) else (if 0 < (s0_0.size : Int) then (if 1 ≤ (s0_0.size : Int) then (some (bt s0_0 0, s0_0.extract 1 s0_0.size, s0_1)) else (none)) else (none))) = some (r1, r2, r3) := h
  clear h
  by_cases c2 : s0_0.toList = ([] : List UInt8)
  · rw [if_pos c2] at H
    have c2b0 : (s0_0.toList == ([] : List UInt8)) = true := beq_iff_eq.mpr c2
    have c2b1 : (s0_0.toList != ([] : List UInt8)) = false := bne_eq_false_iff_eq.mpr c2
    clear c2
    simp only [Option.some.injEq, Prod.mk.injEq] at H
    obtain ⟨rfl, rfl, rfl⟩ := H
    obtain ⟨HGz3, hgz3⟩ := HI0.out
    have hcz3_0 := cellS116_0 HGz3
    have hcz3_1 := cellS116_1 HGz3
    have hfz3_0 := blk_frozen HGz3 0
    have hfz3_1 := blk_frozen HGz3 1
    clear HGz3 hgz3
    go_enter Tryd.func84, Tryd.ntmps84
    go_wp2
    go_ret
    exact ⟨by first | rfl | (simp [errW_none, errW_some] <;> rfl) | (simp [*, errW_none, errW_some] <;> rfl), by repeat (first | (with_reducible first | exact HI0.out | apply IsS116.alloc | apply IsS116.drewN | apply IsS116.drew | apply IsS116.set_0 | apply IsS116.set_1) | exact HI0.out), by repeat (first | (with_reducible first | exact HB.out | apply below_alloc | apply pw_below_drewN | apply below_drew1 | refine below_set ?_ (IsS116.ge HI0.out)) | exact HB.out), by repeat (first | (with_reducible first | exact HK.out | apply KeepBut.set_ | apply keep_drewN | apply keep_drew | apply keep_alloc) | exact HK.out)⟩
  · rw [if_neg c2] at H
    have c2b0 : (s0_0.toList == ([] : List UInt8)) = false := beq_eq_false_iff_ne.mpr c2
    have c2b1 : (s0_0.toList != ([] : List UInt8)) = true := bne_iff_ne.mpr c2
    by_cases c4 : 0 < (s0_0.size : Int)
    · rw [if_pos c4] at H
      have c4b0 : decide (0 < (s0_0.size : Int)) = true := decide_eq_true c4
      have c4b1 : decide (0 < s0_0.size) = true := decide_eq_true (by omega)
      clear c4
      by_cases c6 : 1 ≤ (s0_0.size : Int)
      · rw [if_pos c6] at H
        have c6b0 := eq_true c6
        have c6b1 : decide (1 ≤ (s0_0.size : Int)) = true := decide_eq_true c6
        clear c6
        simp only [Option.some.injEq, Prod.mk.injEq] at H
        obtain ⟨rfl, rfl, rfl⟩ := H
        obtain ⟨HGz7, hgz7⟩ := HI0.out
        have hcz7_0 := cellS116_0 HGz7
        have hcz7_1 := cellS116_1 HGz7
        have hfz7_0 := blk_frozen HGz7 0
        have hfz7_1 := blk_frozen HGz7 1
        clear HGz7 hgz7
        have p5 : 0 ≤ (0 : Int) := (by omega)
        have q5 : 0 < s0_0.size := (by have : (0 : Int) < (s0_0.size : Int) := of_decide_eq_true (by first | (with_reducible assumption) | assumption); omega)
        have hx5 : ∀ h : 0 < s0_0.size, ((s0_0[0]'h).toNat : Int) = bt s0_0 0 := bt_at s0_0 0
        clear p5
        have qi5 : (0 < (s0_0.size : Int)) = True := eq_true (of_decide_eq_true (by first | (with_reducible assumption) | assumption))
        replace q5 := eq_true q5
        go_enter Tryd.func84, Tryd.ntmps84
        go_wp2
        go_ret
        exact ⟨by first | rfl | (simp [errW_none, errW_some] <;> rfl) | (simp [*, errW_none, errW_some] <;> rfl), by repeat (first | (with_reducible first | exact HI0.out | apply IsS116.alloc | apply IsS116.drewN | apply IsS116.drew | apply IsS116.set_0 | apply IsS116.set_1) | exact HI0.out), by repeat (first | (with_reducible first | exact HB.out | apply below_alloc | apply pw_below_drewN | apply below_drew1 | refine below_set ?_ (IsS116.ge HI0.out)) | exact HB.out), by repeat (first | (with_reducible first | exact HK.out | apply KeepBut.set_ | apply keep_drewN | apply keep_drew | apply keep_alloc) | exact HK.out)⟩
      · rw [if_neg c6] at H
        exact absurd H (by simp)
    · rw [if_neg c4] at H
      exact absurd H (by simp)

end
end Go.Proofs.YtdbbcngmnpejnaaDoor.B

/- The reader's take, on lists of bytes. -/
namespace Go.Proofs.YtdbbcngmnpejnaaDoor.B
open Go.Proofs.YtdbbcngmnpejnaaDoor.A
open Go.RowKit Go.Proofs.YtdbbcngmnpejnaaDoorW.PrintWords Go.Proofs.YtdbbcngmnpejnaaDoorW.PrintMore
/-- The reader: what is left, and whether all was well. -/
def RdAt (W : World) (g : Nat) (L : List UInt8) (b : Bool) : Prop := W.heap[g]? = some (.cells #[.string (strB L), .bool b] 116 (0, 0))
def takeC (L : List UInt8) : Int := ((L.headD 0).toNat : Int)
theorem strB_size (L : List UInt8) : (strB L).size = L.length := rfl
theorem strB_toList (L : List UInt8) : (strB L).toList = L := by rw [Lib.toList_data]; rfl
theorem take_calls (g : Nat) (L : List UInt8) (b : Bool) (W : World) (h : RdAt W g L b) : Calls Tryd.prog 84 #[.pointer (some ⟨g, 0, none⟩)] W fun e w' => e = .returned (.int .u8 (takeC L)) ∧ RdAt w' g L.tail (b && !L.isEmpty) ∧ W.grownBy w' (some g) := by
  obtain ⟨w0, hw0⟩ : ∃ w0 : World, w0 = { W with heap := #[] } := ⟨_, rfl⟩
  have hs : w0.heap.size = 0 := by rw [hw0]; rfl
  have hB : Below w0.heap.size w0 W := by
    rw [hs, hw0]
    exact ⟨rfl, rfl, rfl, Nat.zero_le _, fun k hk => absurd hk (Nat.not_lt_zero _)⟩
  have hI : IsS116 w0 W g (strB L) b := ⟨h, by rw [hs]; exact Nat.zero_le _⟩
  have hlt : g < W.heap.size := blk_lt h
  have hgr : ∀ w', Below w0.heap.size w0 w' → KeepBut W w' g none → W.grownBy w' (some g) := fun w' hb hk =>
    ⟨by rw [hb.os, hw0], by rw [hb.tape, hw0], by rw [hb.output, hw0], hk.1, fun k hk1 hk2 => hk.2 k hk1 (fun e => hk2 (by rw [e])) (by simp)⟩
  cases L with
  | nil =>
    refine (breed_reader_take.calls g (strB []) b 0 (strB []) false w0 W hI hB (by unfold breed_reader_take.f; rw [strB_toList, if_pos rfl])).mono ?_
    rintro e w' ⟨rfl, hI', hb, hk⟩
    refine ⟨rfl, ?_, hgr w' hb hk⟩
    rw [show (b && !([] : List UInt8).isEmpty) = false by simp]
    exact hI'.1
  | cons c L =>
    have hbt : bt (strB (c :: L)) 0 = ((c.toNat : Nat) : Int) := by
      unfold bt
      rw [dif_pos (by rw [strB_size]; simp)]
      rfl
    have hex : (strB (c :: L)).extract 1 (strB (c :: L)).size = strB L := by
      apply ByteArray.ext
      apply Array.ext'
      rw [Lib.extract_to_end]
      rfl
    refine (breed_reader_take.calls g (strB (c :: L)) b _ (strB L) b w0 W hI hB (by
      unfold breed_reader_take.f
      rw [strB_toList, if_neg (by simp), if_pos (by rw [strB_size, List.length_cons]; omega), if_pos (by rw [strB_size, List.length_cons]; omega), hex])).mono ?_
    rintro e w' ⟨rfl, hI', hb, hk⟩
    refine ⟨by rw [hbt]; rfl, ?_, hgr w' hb hk⟩
    rw [show (b && !(c :: L).isEmpty) = b by simp]
    exact hI'.1
end Go.Proofs.YtdbbcngmnpejnaaDoor.B

/- The reference's reader, as printed, reads what readQ says. -/
namespace Go.Proofs.YtdbbcngmnpejnaaDoor.B
open Go.Proofs.YtdbbcngmnpejnaaDoor.A
open Go.RowKit Go.Proofs.YtdbbcngmnpejnaaDoorW.PrintWords Go.Proofs.YtdbbcngmnpejnaaDoorW.PrintMore
mutual
/-- A tree as the reference holds it. -/
def ndS : BT → S85
  | .leaf i => ⟨((2 ^ i : Nat) : Int), []⟩
  | .node ks => ⟨((BT.sets ks : Nat) : Int), ndL ks⟩
def ndL : List BT → List S85
  | [] => []
  | k :: ks => ndS k :: ndL ks
end
theorem ndL_map : ∀ ks : List BT, ndL ks = ks.map ndS
  | [] => by rw [ndL]; rfl
  | k :: ks => by rw [ndL, ndL_map ks]; rfl
theorem nd_set (t : BT) : (ndS t).f0 = ((t.set : Nat) : Int) := by
  cases t with
  | leaf i => rw [ndS, set_leaf]
  | node ks => rw [ndS, set_node]
theorem nd_node (ks : List BT) : (ndS (.node ks)).f1 = ks.map ndS := by rw [ndS]; exact ndL_map ks
theorem nd_leaf (i : Nat) : (ndS (.leaf i)).f1 = [] := by rw [ndS]
theorem nd_eq (t : BT) : (⟨((t.set : Nat) : Int), (ndS t).f1⟩ : S85) = ndS t := by
  rw [← nd_set]
  cases ndS t
  rfl
theorem least_tab : (List.range 256).all (fun s => s == 0 || decide (drovewayref05_least.f 20 (s : Int) = some (low s : Int))) = true := by decide +kernel
theorem least_ev {s : Nat} (h0 : s ≠ 0) (h8 : s < 256) : Ev (fun k => drovewayref05_least.f k (s : Int)) (low s : Int) := by
  have h := List.all_eq_true.1 least_tab s (List.mem_range.2 h8)
  rw [Bool.or_eq_true, decide_eq_true_iff, beq_iff_eq] at h
  exact Ev.of (fun k => drovewayref05_least.mono _ k) (h.resolve_left h0)
/-- What the reader hands back. -/
def RdRes (S : List UInt8) : Option (BT × List UInt8) → Int × List S85 × Int × Bool → Prop
  | some (t, L'), r => r = (((t.set : Nat) : Int), (ndS t).f1, ((S.length - L'.length : Nat) : Int), true)
  | none, r => r.2.2.2 = false
theorem bt_drop {S : List UInt8} {p : Nat} {c : UInt8} {L : List UInt8} (h : S.drop p = c :: L) : p < S.length ∧ bt (strB S) (p : Int) = (c.toNat : Int) ∧ S.drop (p + 1) = L ∧ L.length = S.length - (p + 1) := by
  have hp : p < S.length := by
    rcases Nat.lt_or_ge p S.length with h2 | h2
    · exact h2
    · rw [List.drop_of_length_le h2] at h; cases h
  rw [List.drop_eq_getElem_cons hp] at h
  injection h with h1 h2
  refine ⟨hp, ?_, h2, by rw [← h2, List.length_drop]⟩
  unfold bt
  rw [dif_pos (by rw [strB_size, Int.toNat_natCast]; exact hp), ← h1]
  rfl
theorem shl_one : ∀ i : Nat, i < 8 → shl .i64 1 (i : Int) = ((2 ^ i : Nat) : Int) := by decide +kernel
theorem fail_ev {n q : Int} {s : ByteArray} {a b : Int} {l m : List S85} : Ev (fun k => drovewayref05_read.j2 k n s q true a l b m) (0, [], 0, false) :=
  Ev.step (f := fun _ => some (0, [], 0, false)) (fun k => by rw [drovewayref05_read.j2, if_pos rfl]) (Ev.now _)
theorem read_ev {n : Nat} (hn : n ≤ 8) (S : List UInt8) (hS : S.length ≤ 1000000000) : ∀ f,
    (∀ p L, p ≤ S.length → S.drop p = L → 2 * L.length + 1 ≤ f → ∃ r, RdRes S (readQ n f L) r ∧ Ev (fun k => drovewayref05_read.f k (n : Int) (strB S) (p : Int)) r) ∧
    (∀ p l all L, p + 1 ≤ S.length → S.drop (p + 1) = L → ReadL l all → 2 * L.length + 2 ≤ f → ∃ r, RdRes S (loopQ n f l all L) r ∧ Ev (fun k => drovewayref05_read.l0 k (n : Int) (strB S) (p : Int) (all : Int) (l.map ndS)) r)
  | 0 => ⟨fun p L _ _ h => by omega, fun p l all L _ _ _ h => by omega⟩
  | f + 1 => by
    obtain ⟨ih1, ih2⟩ := read_ev hn S hS f
    have hsz : ((strB S).size : Int) = (S.length : Int) := by rw [strB_size]
    refine ⟨fun p L hp hL hf => ?_, fun p l all L hp hL hR hf => ?_⟩
    · cases L with
      | nil =>
        have hpl : S.length ≤ p := by
          have := congrArg List.length hL
          rw [List.length_drop, List.length_nil] at this
          omega
        refine ⟨(0, [], 0, false), by rw [readQ]; rfl, Ev.step (f := fun _ => some (0, [], 0, false)) (fun k => ?_) (Ev.now _)⟩
        rw [drovewayref05_read.f, if_pos (by omega)]
      | cons c L =>
        obtain ⟨hpl, hbt, hdr, hlen⟩ := bt_drop hL
        have hc := c.toNat_lt
        have hw : wrap64 ((p : Int) + 1) = ((p + 1 : Nat) : Int) := by unfold wrap64; omega
        rw [List.length_cons] at hf
        rw [readQ]
        by_cases hd : 48 ≤ c.toNat ∧ c.toNat - 48 < n
        · rw [if_pos hd]
          have hi : c.toNat - 48 < 8 := by omega
          have hsh : shl .i64 1 (((c.toNat : Int) - 48) % 256) = ((2 ^ (c.toNat - 48) : Nat) : Int) := by
            rw [show ((c.toNat : Int) - 48) % 256 = ((c.toNat - 48 : Nat) : Int) by omega]
            exact shl_one _ hi
          refine ⟨(((2 ^ (c.toNat - 48) : Nat) : Int), [], ((S.length - L.length : Nat) : Int), true), ?_, ?_⟩
          · show _ = _
            rw [set_leaf, nd_leaf]
          · refine Ev.step (f := fun k => drovewayref05_read.j0 k (n : Int) (strB S) (p : Int) true) (fun k => ?_) (Ev.step (f := fun _ => some (((2 ^ (c.toNat - 48) : Nat) : Int), [], ((S.length - L.length : Nat) : Int), true)) (fun k => ?_) (Ev.now _))
            · rw [drovewayref05_read.f, if_neg (by omega), if_pos (by omega), if_pos (by omega), hbt, if_pos (by omega), decide_eq_true (by omega)]
            · rw [drovewayref05_read.j0, if_pos rfl, if_pos (by omega), if_pos (by omega), hbt, hsh, hw]
              congr 5
              omega
        · rw [if_neg hd]
          have hj : ∀ k, drovewayref05_read.f (k + 1) (n : Int) (strB S) (p : Int) = drovewayref05_read.j0 k (n : Int) (strB S) (p : Int) false := fun k => by
            rw [drovewayref05_read.f, if_neg (by omega), if_pos (by omega), if_pos (by omega), hbt]
            by_cases h48 : (c.toNat : Int) ≥ 48
            · rw [if_pos h48, decide_eq_false (by omega)]
            · rw [if_neg h48]
          by_cases h40 : c.toNat = 40
          · rw [if_pos h40]
            obtain ⟨r, hr, he⟩ := ih2 p [] 0 L (by omega) hdr read_nil (by omega)
            refine ⟨r, hr, Ev.step hj (Ev.step (fun k => ?_) he)⟩
            rw [drovewayref05_read.j0, if_neg Bool.false_ne_true, if_pos (by omega), if_pos (by omega), hbt, if_pos (by omega)]
            rfl
          · rw [if_neg h40]
            refine ⟨(0, [], 0, false), rfl, Ev.step hj (Ev.step (f := fun _ => some (0, [], 0, false)) (fun k => ?_) (Ev.now _))⟩
            rw [drovewayref05_read.j0, if_neg Bool.false_ne_true, if_pos (by omega), if_pos (by omega), hbt, if_neg (by omega)]
    · have HW := Aside0.mk (show wrap64 ((p : Int) + 1) = ((p + 1 : Nat) : Int) by unfold wrap64; omega)
      obtain ⟨r1, hr1, he1⟩ := ih1 (p + 1) L hp hL (by omega)
      have hl0 : ∀ k, drovewayref05_read.l0 (k + 1) (n : Int) (strB S) (p : Int) (all : Int) (l.map ndS) = (drovewayref05_read.f k (n : Int) (strB S) ((p + 1 : Nat) : Int)).bind fun b => (if b.2.2.2 = true then (if b.2.2.1 ≥ ((strB S).size : Int) then (drovewayref05_read.j2 k (n : Int) (strB S) b.2.2.1 true (all : Int) (l.map ndS) b.1 b.2.1) else (drovewayref05_read.j2 k (n : Int) (strB S) b.2.2.1 ((Go.bits .and .i64 (all : Int) b.1) != 0) (all : Int) (l.map ndS) b.1 b.2.1)) else (drovewayref05_read.j2 k (n : Int) (strB S) b.2.2.1 true (all : Int) (l.map ndS) b.1 b.2.1)) := fun k => by
        rw [drovewayref05_read.l0, HW.out]
      rw [loopQ]
      cases hq : readQ n f L with
      | none =>
        rw [hq] at hr1
        obtain ⟨a, b, q, d⟩ := r1
        have hd : d = false := hr1
        subst hd
        exact ⟨(0, [], 0, false), rfl, Ev.step hl0 (Ev.bind he1 (Ev.congr (fun k => by rw [if_neg Bool.false_ne_true]) fail_ev))⟩
      | some tq =>
        obtain ⟨t, L1⟩ := tq
        rw [hq] at hr1
        have hr1 : r1 = (((t.set : Nat) : Int), (ndS t).f1, ((S.length - L1.length : Nat) : Int), true) := hr1
        subst hr1
        have hP := (readQ_P hn f).1 _ _ hq
        obtain ⟨hg, hlt⟩ := (read_goods f).1 _ _ _ hP
        have hsnd := (read_sound f).1 _ _ _ hP
        obtain ⟨q, hqe⟩ : ∃ q, S.length - L1.length = q := ⟨_, rfl⟩
        have hLlen : L.length = S.length - (p + 1) := by rw [← hL, List.length_drop]
        have hqd : S.drop q = L1 := by
          have h1 : S.drop (p + 1 + t.text.length) = L1 := by rw [← List.drop_drop, hL, hsnd, List.drop_left]
          have h2 : L.length = t.text.length + L1.length := by rw [hsnd, List.length_append]
          rw [show q = p + 1 + t.text.length by omega]; exact h1
        rw [hqe] at he1
        have ht0 := good_ne hg
        have ht8 := good_256 hg
        have hall8 : all < 256 := by rw [hR.2.2]; exact sets_lt fun u hu => (hR.1 u hu).small
        have HAND := Aside0.mk (and_cast hall8 ht8)
        have HOR := Aside0.mk (low_or hall8 ht8)
        dsimp only
        cases L1 with
        | nil =>
          refine ⟨(0, [], 0, false), by split <;> rfl, Ev.step hl0 (Ev.bind he1 (Ev.congr (fun k => ?_) (fail_ev (n := (n : Int)) (q := (q : Int)) (s := strB S) (a := (all : Int)) (b := ((t.set : Nat) : Int)) (l := l.map ndS) (m := (ndS t).f1))))⟩
          dsimp only
          rw [if_pos rfl, if_pos (by rw [List.length_nil] at hqe; omega)]
        | cons c L2 =>
          obtain ⟨hql, hbt, hdr, hlen2⟩ := bt_drop hqd
          have HBT := Aside0.mk hbt
          clear hbt
          have hj2 : ∀ k, (if true = true then (if ((q : Nat) : Int) ≥ ((strB S).size : Int) then (drovewayref05_read.j2 k (n : Int) (strB S) (q : Int) true (all : Int) (l.map ndS) ((t.set : Nat) : Int) (ndS t).f1) else (drovewayref05_read.j2 k (n : Int) (strB S) (q : Int) ((Go.bits .and .i64 (all : Int) ((t.set : Nat) : Int)) != 0) (all : Int) (l.map ndS) ((t.set : Nat) : Int) (ndS t).f1)) else (drovewayref05_read.j2 k (n : Int) (strB S) (q : Int) true (all : Int) (l.map ndS) ((t.set : Nat) : Int) (ndS t).f1)) = drovewayref05_read.j2 k (n : Int) (strB S) (q : Int) (((all &&& t.set : Nat) : Int) != 0) (all : Int) (l.map ndS) ((t.set : Nat) : Int) (ndS t).f1 := fun k => by
            rw [if_pos rfl, if_neg (by omega), HAND.out]
          by_cases hdj : t.set &&& all = 0
          · have hz : (((all &&& t.set : Nat) : Int) != 0) = false := by rw [Nat.and_comm, hdj]; rfl
            -- may it stand behind the others?
            have hx : ∃ x : Bool, x = !nextOk l all t ∧ Ev (fun k => drovewayref05_read.j3 k (n : Int) (strB S) (q : Int) x (all : Int) (l.map ndS) ((t.set : Nat) : Int) (ndS t).f1) = Ev (fun k => drovewayref05_read.j3 k (n : Int) (strB S) (q : Int) x (all : Int) (l.map ndS) ((t.set : Nat) : Int) (ndS t).f1) := ⟨_, rfl, rfl⟩
            have hj3 : ∀ r, Ev (fun k => drovewayref05_read.j3 k (n : Int) (strB S) (q : Int) (!nextOk l all t) (all : Int) (l.map ndS) ((t.set : Nat) : Int) (ndS t).f1) r → Ev (fun k => drovewayref05_read.j2 k (n : Int) (strB S) (q : Int) false (all : Int) (l.map ndS) ((t.set : Nat) : Int) (ndS t).f1) r := fun r h => by
              by_cases hl : l = []
              · have hno : nextOk l all t = true := by unfold nextOk; rw [decide_eq_true hdj, hl]; rfl
                rw [hno] at h
                refine Ev.step (fun k => ?_) h
                rw [drovewayref05_read.j2, if_neg Bool.false_ne_true, hl, if_neg (by simp)]
                rfl
              · have hln : 0 < l.length := List.length_pos_iff.mpr hl
                have hl8 : l.length ≤ 8 := by
                  have h := asc_len (m := 8) (l.map fun k => low k.set) 0 (by rw [List.pairwise_map]; exact hR.2.1.imp fun h => h.2) (fun y hy => by
                    obtain ⟨k, hk, rfl⟩ := List.mem_map.mp hy
                    exact ⟨Nat.zero_le _, low_lt (good_ne (hR.1 k hk)) (good_256 (hR.1 k hk))⟩) (by decide)
                  rw [List.length_map] at h
                  omega
                have hml : (l.map ndS).length = l.length := List.length_map _
                have hwl : wrap64 (((l.map ndS).length : Int) - 1) = ((l.length - 1 : Nat) : Int) := by rw [hml]; unfold wrap64; omega
                have hlast : rd_T85 (l.map ndS) ((l.length - 1 : Nat) : Int) = ndS (l.getLast hl) := by
                  simp only [rd_T85, Int.toNat_natCast, List.getD_eq_getElem?_getD, List.getElem?_map]
                  rw [List.getElem?_eq_getElem (by omega), ← List.getLast_eq_getElem hl]
                  rfl
                have hlm := List.getLast_mem hl
                have hlg := hR.1 _ hlm
                have hne : low t.set ≠ low (l.getLast hl).set := fun e => by
                  have h1 := low_bit ht0 ht8
                  have h2 := low_bit (good_ne hlg) (good_256 hlg)
                  rw [← e] at h2
                  have h3 := disj_iff.mp hdj _ h1
                  rw [hR.2.2, sets_bit.mpr ⟨_, hlm, h2⟩] at h3; cases h3
                have hno : (!nextOk l all t) = decide ((low t.set : Int) < (low (l.getLast hl).set : Int)) := by
                  unfold nextOk
                  rw [decide_eq_true hdj, Bool.true_and, List.getLast?_eq_some_getLast hl, Option.getD_some, show l.isEmpty = false by (cases l with | nil => exact absurd rfl hl | cons a b => rfl), Bool.false_or]
                  by_cases e : low (l.getLast hl).set < low t.set
                  · rw [decide_eq_true e, decide_eq_false (by omega)]; rfl
                  · rw [decide_eq_false e, decide_eq_true (by omega)]; rfl
                rw [hno] at h
                have hlev := least_ev (good_ne hlg) (good_256 hlg)
                rw [← nd_set] at hlev
                refine Ev.step (fun k => ?_) (Ev.bind (least_ev ht0 ht8) (Ev.bind (f := fun k x => drovewayref05_read.j3 k (n : Int) (strB S) (q : Int) (decide ((low t.set : Int) < x)) (all : Int) (l.map ndS) ((t.set : Nat) : Int) (ndS t).f1) hlev h) (f := fun k y => (drovewayref05_least.f k (ndS (l.getLast hl)).f0).bind fun x => drovewayref05_read.j3 k (n : Int) (strB S) (q : Int) (decide (y < x)) (all : Int) (l.map ndS) ((t.set : Nat) : Int) (ndS t).f1))
                rw [drovewayref05_read.j2, if_neg Bool.false_ne_true, if_pos (by omega)]
                congr 1
                funext y
                rw [hwl, if_pos (by omega), if_pos (by omega), hlast]
            have hjj : ∀ r, Ev (fun k => drovewayref05_read.j3 k (n : Int) (strB S) (q : Int) (!nextOk l all t) (all : Int) (l.map ndS) ((t.set : Nat) : Int) (ndS t).f1) r → Ev (fun k => drovewayref05_read.l0 k (n : Int) (strB S) (p : Int) (all : Int) (l.map ndS)) r := fun r h =>
              Ev.step hl0 (Ev.bind he1 (Ev.congr (fun k => (hj2 k).trans (by rw [hz])) (hj3 r h)))
            cases hno : nextOk l all t with
            | false =>
              rw [if_neg Bool.false_ne_true]
              refine ⟨(0, [], 0, false), rfl, hjj _ ?_⟩
              rw [hno]
              exact Ev.step (f := fun _ => some (0, [], 0, false)) (fun k => by rw [Bool.not_false, drovewayref05_read.j3, if_pos rfl]) (Ev.now _)
            | true =>
              rw [if_pos rfl]
              dsimp only
              have hR2 := read_next hR hg hno
              have hl8 : (l ++ [t]).length ≤ 8 := by
                have h := asc_len (m := 8) ((l ++ [t]).map fun k => low k.set) 0 (by rw [List.pairwise_map]; exact hR2.2.1.imp fun h => h.2) (fun y hy => by
                  obtain ⟨k, hk, rfl⟩ := List.mem_map.mp hy
                  exact ⟨Nat.zero_le _, low_lt (good_ne (hR2.1 k hk)) (good_256 (hR2.1 k hk))⟩) (by decide)
                rw [List.length_map] at h
                omega
              have hy : l.map ndS ++ [(⟨((t.set : Nat) : Int), (ndS t).f1⟩ : S85)] = (l ++ [t]).map ndS := by rw [nd_eq, List.map_append]; rfl
              have hll : (l.map ndS).length ≤ 8 := by rw [List.length_append] at hl8; rw [List.length_map]; omega
              have HWQ := Aside0.mk (show wrap64 ((q : Int) + 1) = ((q + 1 : Nat) : Int) by unfold wrap64; omega)
              have hj3e : ∀ k, drovewayref05_read.j3 (k + 1) (n : Int) (strB S) (q : Int) (!nextOk l all t) (all : Int) (l.map ndS) ((t.set : Nat) : Int) (ndS t).f1 = (if (c.toNat : Int) = 41 then some (((all ||| t.set : Nat) : Int), (l ++ [t]).map ndS, ((q + 1 : Nat) : Int), decide ((((l ++ [t]).map ndS).length : Int) ≥ 2)) else (if (c.toNat : Int) = 44 then drovewayref05_read.l0 k (n : Int) (strB S) (q : Int) ((all ||| t.set : Nat) : Int) ((l ++ [t]).map ndS) else some (0, [], 0, false))) := fun k => by
                rw [hno, Bool.not_true, drovewayref05_read.j3, if_neg Bool.false_ne_true, if_pos (by omega), hy, Option.bind_some, if_pos (by omega), if_pos (by omega), HBT.out, HOR.out, HWQ.out]
              by_cases h41 : c.toNat = 41
              · rw [if_pos h41]
                have hfin : Ev (fun k => drovewayref05_read.l0 k (n : Int) (strB S) (p : Int) (all : Int) (l.map ndS)) (((all ||| t.set : Nat) : Int), (l ++ [t]).map ndS, ((q + 1 : Nat) : Int), decide ((((l ++ [t]).map ndS).length : Int) ≥ 2)) :=
                  hjj _ (Ev.step (f := fun _ => some _) (fun k => by rw [hj3e, if_pos (by omega)]) (Ev.now _))
                refine ⟨_, ?_, hfin⟩
                by_cases h1 : 1 < (l ++ [t]).length
                · rw [if_pos h1]
                  show _ = _
                  rw [set_node, nd_node, ← hR2.2.2, decide_eq_true (by rw [List.length_map]; omega)]
                  congr 3
                  omega
                · rw [if_neg h1]
                  show decide _ = false
                  rw [decide_eq_false_iff_not, List.length_map]; omega
              · rw [if_neg h41]
                by_cases h44 : c.toNat = 44
                · rw [if_pos h44]
                  obtain ⟨r, hr, he⟩ := ih2 q (l ++ [t]) (all ||| t.set) L2 (by omega) hdr hR2 (by rw [List.length_cons] at hlt; omega)
                  exact ⟨r, hr, hjj _ (Ev.step (fun k => by rw [hj3e, if_neg (by omega), if_pos (by omega)]) he)⟩
                · rw [if_neg h44]
                  exact ⟨(0, [], 0, false), rfl, hjj _ (Ev.step (f := fun _ => some (0, [], 0, false)) (fun k => by rw [hj3e, if_neg (by omega), if_neg (by omega)]) (Ev.now _))⟩
          · have hz : (((all &&& t.set : Nat) : Int) != 0) = true := by rw [Nat.and_comm, bne_iff_ne]; omega
            refine ⟨(0, [], 0, false), ?_, Ev.step hl0 (Ev.bind he1 (Ev.congr (fun k => (hj2 k).trans (by rw [hz])) fail_ev))⟩
            rw [if_neg (by unfold nextOk; rw [decide_eq_false hdj]; simp)]
            rfl
end Go.Proofs.YtdbbcngmnpejnaaDoor.B

/- The reference's tree and IsTree, as the kit's print writes them. -/
namespace Go.Proofs.YtdbbcngmnpejnaaDoor.B
open Go.Proofs.YtdbbcngmnpejnaaDoor.A
open Go.RowKit Go.Proofs.YtdbbcngmnpejnaaDoorW.PrintWords Go.Proofs.YtdbbcngmnpejnaaDoorW.PrintLast Go.Proofs.YtdbbcngmnpejnaaDoorW.PrintMore
section
attribute [local go_sem] max2_int min2_int max_two min_two max_three min_three max_four min_four   -- for this text's walks alone
set_option linter.unusedVariables false
set_option linter.unusedSimpArgs false
/-! ### drovewayref05_tree: function 62 -/
def drovewayref05_tree.f (k : Nat) (a0 : Int) (a1 : ByteArray) : Option (Int × (List (S85)) × Bool) := if a0 < 1 then (some (0, ([] : List (S85)), false)) else (if a0 > 8 then (some (0, ([] : List (S85)), false)) else ((drovewayref05_read.f k a0 a1 0).bind fun bt277 => (if bt277.2.2.2 = true then (if bt277.2.2.1 = (a1.size : Int) then (if 0 ≤ a0 then (some (bt277.1, bt277.2.1, (bt277.1 == (wrap64 ((shl .i64 1 a0) - 1))))) else (none)) else (some (bt277.1, bt277.2.1, false))) else (some (bt277.1, bt277.2.1, false)))))
def drovewayref05_tree.T4 : Bool × List (List Nat × List Nat) := (true, [([], []), ([], []), ([1], [1]), ([2], [2]), ([2], [2]), ([4, 2], [2, 4]), ([3, 5, 2], [2, 3, 5]), ([2, 6], [2, 6]), ([7, 2], [7]), ([8], [8]), ([9, 8], [8, 9]), ([8], [8]), ([11, 8], [8, 11]), ([12, 8], [8, 12]), ([10, 13, 8], [8, 10, 13]), ([8, 14], [8, 14]), ([0, 8, 0], [0]), ([15, 16, 0, 1, 2, 3, 4, 5, 6, 7, 8, 9, 10, 11, 12, 13, 14, 15, 16], [15])])
def drovewayref05_tree.B4 : List Nat := [0, 0, 2, 6, 6, 22, 62, 126, 254, 510, 1022, 510, 2558, 6654, 16382, 32766, 511, 131071]
theorem drovewayref05_tree.tab4 : rtab .any (opsOf Tryd.f62 4) = drovewayref05_tree.T4 := by kernel_rfl
theorem drovewayref05_tree.bits4 : waitsOk drovewayref05_tree.T4.2 drovewayref05_tree.B4 = true := by kernel_rfl
set_option maxHeartbeats 8000000 in
set_option maxRecDepth 100000 in
theorem drovewayref05_tree.calls (k : Nat) (a0 : Int) (a1 : ByteArray) (r1 : Int) (r2 : List (S85)) (r3 : Bool) (w : World) (h : drovewayref05_tree.f k a0 a1 = some (r1, r2, r3)) :
    Calls Tryd.prog 62 #[.int .i64 a0, .string a1] w fun e w' => ∃ v1_ : Value, e = .returned (.tuple #[.agg #[.int .i64 r1, v1_], .bool r3]) ∧ Kd.R k85 85 w' w.heap.size (fun _ => True) v1_ r2 ∧ Below w.heap.size w w' := by
  have hu85 := Tryd.underlying85
  have HB := Aside0.mk (Below.refl w.heap.size w)
  have H : (if a0 < 1 then (some (0, ([] : List (S85)), false)) else (if a0 > 8 then (some (0, ([] : List (S85)), false)) else ((drovewayref05_read.f k a0 a1 0).bind fun bt277 => (if bt277.2.2.2 = true then (if bt277.2.2.1 = (a1.size : Int) then (if 0 ≤ a0 then (some (bt277.1, bt277.2.1, (bt277.1 == (wrap64 ((shl .i64 1 a0) - 1))))) else (none)) else (some (bt277.1, bt277.2.1, false))) else (some (bt277.1, bt277.2.1, false)))))) = some (r1, r2, r3) := h
  clear h
  by_cases c3 : a0 < 1
  · rw [if_pos c3] at H
    have c3b0 : decide (a0 < 1) = true := decide_eq_true c3
    clear c3
    simp only [Option.some.injEq, Prod.mk.injEq] at H
    obtain ⟨rfl, rfl, rfl⟩ := H
    go_enter Tryd.func62, Tryd.ntmps62
    go_wp2_with (first | ((with_reducible refine gate_dst (N := 4) rfl ?_); (try (refine gate_guard (by rfl) ?_; dsimp only)); refine box_event ?hg (N := 4) ?hd (cs := #[.int .i64 0, .slice none 0 0]) (t := 85) ?hr ?_; (case hd => rfl); (case hg => rfl); (case hr => first | (go_simp; done) | (go_simp; rfl)); intro gb276 hg w4 hbox hb; have n0_ := Aside0.mk (below_step (by repeat (first | (with_reducible first | exact HB.out | apply below_alloc | apply pw_below_drewN | apply below_drew1) | exact HB.out)) hb); have n1_ := Aside0.mk (hbox); have n2_ := Aside0.mk ((by rw [hg]; exact (below_size (by repeat (first | (with_reducible first | exact HB.out | apply below_alloc | apply pw_below_drewN | apply below_drew1) | exact HB.out))) : w.heap.size ≤ gb276)); have n3_ := Aside0.mk ((by rw [hg]; exact (below_size (by repeat (first | (with_reducible first | exact HB.out | apply below_alloc | apply pw_below_drewN | apply below_drew1) | exact HB.out))) : w.heap.size ≤ gb276)); clear HB; have HB := n0_; have BK276 := n1_; have GW276 := n2_; have GE276 := n3_; clear n0_ n1_ n2_ n3_; clear hb hbox hg; have hcz5_0 : w4.cell? ⟨gb276, 0, none⟩ = some (.int .i64 0) := (blk_cell BK276.out 0).trans rfl; have hcz5_1 : w4.cell? ⟨gb276, 1, none⟩ = some (.slice none 0 0) := (blk_cell BK276.out 1).trans rfl; have hfz5_0 := blk_frozen BK276.out 0; have hfz5_1 := blk_frozen BK276.out 1))
    refine bodyPost_ret (results_ct rfl _ _ gb276 85 #[.int .i64 0, .slice none 0 0] (0, 0) _ rfl (by (with_reducible repeat (first | refine blk_drewN ?_ _ | refine blk_drew ?_ | refine blk_alloc ?_ _)); refine blk_put (cs := #[.int .i64 0, .slice none 0 0]) ?_ 1 _ rfl; (with_reducible repeat (first | refine blk_drewN ?_ _ | refine blk_drew ?_ | refine blk_alloc ?_ _)); refine blk_put (cs := #[.int .i64 0, .slice none 0 0]) ?_ 0 _ rfl; (with_reducible repeat (first | refine blk_drewN ?_ _ | refine blk_drew ?_ | refine blk_alloc ?_ _)); exact BK276.out) Tryd.underlying85 rfl (by kernel_rfl)) rfl ?_
    exact ⟨_, by first | rfl | (simp [errW_none, errW_some] <;> rfl) | (simp [*, errW_none, errW_some] <;> rfl), by first | exact Kd.R_nil _ _ _ _ _ | exact Kd.N_nil _ _ _ _ _ | exact Kd.V_nil _ _ _ _ _ | exact Kd.Q_nil _ _ _ _ _ | exact Kd.S_nil _ _ _ _ _, by repeat (first | (with_reducible first | exact HB.out | apply below_alloc | apply pw_below_drewN | apply below_drew1 | refine below_set ?_ GE276.out) | exact HB.out)⟩
  · rw [if_neg c3] at H
    have c3b0 : decide (a0 < 1) = false := decide_eq_false c3
    clear c3
    by_cases c6 : a0 > 8
    · rw [if_pos c6] at H
      have c6b0 : decide (8 < a0) = true := decide_eq_true c6
      clear c6
      simp only [Option.some.injEq, Prod.mk.injEq] at H
      obtain ⟨rfl, rfl, rfl⟩ := H
      go_enter Tryd.func62, Tryd.ntmps62
      go_wp2_with (first | ((with_reducible refine gate_dst (N := 4) rfl ?_); (try (refine gate_guard (by rfl) ?_; dsimp only)); refine box_event ?hg (N := 4) ?hd (cs := #[.int .i64 0, .slice none 0 0]) (t := 85) ?hr ?_; (case hd => rfl); (case hg => rfl); (case hr => first | (go_simp; done) | (go_simp; rfl)); intro gb276 hg w7 hbox hb; have n0_ := Aside0.mk (below_step (by repeat (first | (with_reducible first | exact HB.out | apply below_alloc | apply pw_below_drewN | apply below_drew1) | exact HB.out)) hb); have n1_ := Aside0.mk (hbox); have n2_ := Aside0.mk ((by rw [hg]; exact (below_size (by repeat (first | (with_reducible first | exact HB.out | apply below_alloc | apply pw_below_drewN | apply below_drew1) | exact HB.out))) : w.heap.size ≤ gb276)); have n3_ := Aside0.mk ((by rw [hg]; exact (below_size (by repeat (first | (with_reducible first | exact HB.out | apply below_alloc | apply pw_below_drewN | apply below_drew1) | exact HB.out))) : w.heap.size ≤ gb276)); clear HB; have HB := n0_; have BK276 := n1_; have GW276 := n2_; have GE276 := n3_; clear n0_ n1_ n2_ n3_; clear hb hbox hg; have hcz8_0 : w7.cell? ⟨gb276, 0, none⟩ = some (.int .i64 0) := (blk_cell BK276.out 0).trans rfl; have hcz8_1 : w7.cell? ⟨gb276, 1, none⟩ = some (.slice none 0 0) := (blk_cell BK276.out 1).trans rfl; have hfz8_0 := blk_frozen BK276.out 0; have hfz8_1 := blk_frozen BK276.out 1))
      refine bodyPost_ret (results_ct rfl _ _ gb276 85 #[.int .i64 0, .slice none 0 0] (0, 0) _ rfl (by (with_reducible repeat (first | refine blk_drewN ?_ _ | refine blk_drew ?_ | refine blk_alloc ?_ _)); refine blk_put (cs := #[.int .i64 0, .slice none 0 0]) ?_ 1 _ rfl; (with_reducible repeat (first | refine blk_drewN ?_ _ | refine blk_drew ?_ | refine blk_alloc ?_ _)); refine blk_put (cs := #[.int .i64 0, .slice none 0 0]) ?_ 0 _ rfl; (with_reducible repeat (first | refine blk_drewN ?_ _ | refine blk_drew ?_ | refine blk_alloc ?_ _)); exact BK276.out) Tryd.underlying85 rfl (by kernel_rfl)) rfl ?_
      exact ⟨_, by first | rfl | (simp [errW_none, errW_some] <;> rfl) | (simp [*, errW_none, errW_some] <;> rfl), by first | exact Kd.R_nil _ _ _ _ _ | exact Kd.N_nil _ _ _ _ _ | exact Kd.V_nil _ _ _ _ _ | exact Kd.Q_nil _ _ _ _ _ | exact Kd.S_nil _ _ _ _ _, by repeat (first | (with_reducible first | exact HB.out | apply below_alloc | apply pw_below_drewN | apply below_drew1 | refine below_set ?_ GE276.out) | exact HB.out)⟩
    · rw [if_neg c6] at H
      have c6b0 : decide (8 < a0) = false := decide_eq_false c6
      clear c6
      replace H := Option.bind_eq_some_iff.mp H
      obtain ⟨⟨t277, t278, t281, t282⟩, A90, H⟩ := H
      replace H : (if t282 = true then (if t281 = (a1.size : Int) then (if 0 ≤ a0 then (some (t277, t278, (t277 == (wrap64 ((shl .i64 1 a0) - 1))))) else (none)) else (some (t277, t278, false))) else (some (t277, t278, false))) = some (r1, r2, r3) := H
      have A9 := Aside0.mk A90
      clear A90
      by_cases c10 : t282 = true
      · subst c10
        have H1 : (if t281 = (a1.size : Int) then (if 0 ≤ a0 then (some (t277, t278, (t277 == (wrap64 ((shl .i64 1 a0) - 1))))) else (none)) else (some (t277, t278, false))) = some (r1, r2, r3) := by rw [if_pos rfl] at H; exact H
        clear H
        have H := H1
        clear H1
        by_cases c11 : t281 = (a1.size : Int)
        · rw [if_pos c11] at H
          have c11b0 : (t281 == (a1.size : Int)) = true := beq_iff_eq.mpr c11
          have c11b1 : (t281 != (a1.size : Int)) = false := bne_eq_false_iff_eq.mpr c11
          clear c11
          by_cases c12 : 0 ≤ a0
          · rw [if_pos c12] at H
            have c12b0 := eq_true c12
            have c12b1 : decide (0 ≤ a0) = true := decide_eq_true c12
            clear c12
            obtain ⟨ji13, hji13⟩ : ∃ j_ : Int, (shl .i64 1 a0) = j_ := ⟨_, rfl⟩
            replace H : (some (t277, t278, (t277 == (wrap64 ((ji13) - 1))))) = some (r1, r2, r3) := by first | (rw [hji13] at H; exact H) | (simp only [hji13] at H ⊢; exact H)
            (try rw [hji13] at A9)
            have hji13_ : (IntKind.i64.wrap (1 * 2 ^ min a0.toNat 64)) = ji13 := hji13
            have hji13z : a0 ≤ 64 → (IntKind.i64.wrap (1 * 2 ^ a0.toNat)) = ji13 := shl_small hji13
            have hji13u : (IntKind.i64.wrap (2 ^ min a0.toNat 64)) = ji13 := by have h_ := hji13_; rw [Int.one_mul] at h_; exact h_
            have hji13v : a0 ≤ 64 → (IntKind.i64.wrap (2 ^ a0.toNat)) = ji13 := fun hle_ => by have h_ := hji13z hle_; rw [Int.one_mul] at h_; exact h_
            have hji13y : (wrap64 (1 * 2 ^ min a0.toNat 64)) = ji13 := (i64_w _).symm.trans hji13_
            have hji13x : a0 ≤ 64 → (wrap64 (1 * 2 ^ a0.toNat)) = ji13 := fun h_ => (i64_w _).symm.trans (hji13z h_)
            simp only [Option.some.injEq, Prod.mk.injEq] at H
            obtain ⟨rfl, rfl, rfl⟩ := H
            go_enter Tryd.func62, Tryd.ntmps62
            try go_wp2_with (first | ((with_reducible refine gate_dst (N := 4) rfl ?_); (try (refine gate_guard (by rfl) ?_; dsimp only)); refine box_event ?hg (N := 4) ?hd (cs := #[.int .i64 0, .slice none 0 0]) (t := 85) ?hr ?_; (case hd => rfl); (case hg => rfl); (case hr => first | (go_simp; done) | (go_simp; rfl)); intro gb276 hg w14 hbox hb; have n0_ := Aside0.mk (below_step (by repeat (first | (with_reducible first | exact HB.out | apply below_alloc | apply pw_below_drewN | apply below_drew1) | exact HB.out)) hb); have n1_ := Aside0.mk (hbox); have n2_ := Aside0.mk ((by rw [hg]; exact (below_size (by repeat (first | (with_reducible first | exact HB.out | apply below_alloc | apply pw_below_drewN | apply below_drew1) | exact HB.out))) : w.heap.size ≤ gb276)); have n3_ := Aside0.mk ((by rw [hg]; exact (below_size (by repeat (first | (with_reducible first | exact HB.out | apply below_alloc | apply pw_below_drewN | apply below_drew1) | exact HB.out))) : w.heap.size ≤ gb276)); clear HB; have HB := n0_; have BK276 := n1_; have GW276 := n2_; have GE276 := n3_; clear n0_ n1_ n2_ n3_; clear hb hbox hg) | ((with_reducible refine gate_callee (f := 78) rfl ?_); refine goesL_ (some 19) rfl rfl Tryd.func78 (by kernel_rfl) rfl #[.int .i64 a0, .string a1, .int .i64 0] rfl (by (try simp only [List.map_toArray, List.map_cons, List.map_nil]); first | done | rfl | (simp only [List.length_drop, List.length_take]; rfl)) ?_; (with_reducible refine (drovewayref05_read.calls k a0 a1 0 t277 t278 t281 true _ A9.out).mono ?_); rintro e w15 ⟨v279, rfl, ho0, hb⟩; refine ⟨_, rfl, ?_⟩; have n0_ := Aside0.mk (Kd.R_lower (Kd.R_newB ho0 (g := gb276) (o := .cells #[.int .i64 0, .slice none 0 0] 85 (0, 0)) (by (with_reducible repeat (first | refine blk_drewN ?_ _ | refine blk_drew ?_ | refine blk_alloc ?_ _)); exact BK276.out)) (below_size (by repeat (first | (with_reducible first | exact HB.out | apply below_alloc | apply pw_below_drewN | apply below_drew1 | refine below_set ?_ GE276.out) | exact HB.out)))); have n1_ := Aside0.mk (blk_below (g := gb276) (o := .cells #[.int .i64 0, .slice none 0 0] 85 (0, 0)) (by (with_reducible repeat (first | refine blk_drewN ?_ _ | refine blk_drew ?_ | refine blk_alloc ?_ _)); exact BK276.out) hb); have n2_ := Aside0.mk (below_step (by repeat (first | (with_reducible first | exact HB.out | apply below_alloc | apply pw_below_drewN | apply below_drew1 | refine below_set ?_ GE276.out) | exact HB.out)) hb); clear BK276; clear HB; have HO280 := n0_; have BK276 := n1_; have HB := n2_; clear n0_ n1_ n2_; (try clear hb); (try clear hb2); (try clear hk); (try clear hi); (try clear ho0)) | ((with_reducible refine gate_dst (N := 6) rfl ?_); (try (refine gate_guard (by rfl) ?_; dsimp only)); refine box_event ?hg (N := 6) ?hd (cs := #[.int .i64 0, .slice none 0 0]) (t := 85) ?hr ?_; (case hd => rfl); (case hg => rfl); (case hr => first | (go_simp; done) | (go_simp; rfl)); intro gb283 hg w16 hbox hb; have n0_ := Aside0.mk (Kd.R_below (Kd.R_elderB (by (with_reducible repeat (first | apply Kd.R_alloc | apply Kd.R_drewN | apply Kd.R_drew)); exact HO280.out) gb283 (Nat.le_of_eq hg.symm)) hb); have n1_ := Aside0.mk (blk_below (g := gb276) (o := .cells #[.int .i64 0, .slice none 0 0] 85 (0, 0)) (by (with_reducible repeat (first | refine blk_drewN ?_ _ | refine blk_drew ?_ | refine blk_alloc ?_ _)); exact BK276.out) hb); have n2_ := Aside0.mk (below_step (by repeat (first | (with_reducible first | exact HB.out | apply below_alloc | apply pw_below_drewN | apply below_drew1 | refine below_set ?_ GE276.out) | exact HB.out)) hb); have n3_ := Aside0.mk (hbox); have n4_ := Aside0.mk ((by rw [hg]; exact (below_size (by repeat (first | (with_reducible first | exact HB.out | apply below_alloc | apply pw_below_drewN | apply below_drew1 | refine below_set ?_ GE276.out) | exact HB.out))) : w.heap.size ≤ gb283)); have n5_ := Aside0.mk ((by rw [hg]; exact (below_size (by repeat (first | (with_reducible first | exact HB.out | apply below_alloc | apply pw_below_drewN | apply below_drew1 | refine below_set ?_ GE276.out) | exact HB.out))) : w.heap.size ≤ gb283)); have n6_ := Aside0.mk ((by rw [hg]; exact Nat.ne_of_lt (blk_lt (g := gb276) (o := .cells #[.int .i64 0, .slice none 0 0] 85 (0, 0)) (by (with_reducible repeat (first | refine blk_drewN ?_ _ | refine blk_drew ?_ | refine blk_alloc ?_ _)); exact BK276.out)) : gb276 ≠ gb283)); have n7_ := Aside0.mk ((by rw [hg]; exact Nat.ne_of_gt (blk_lt (g := gb276) (o := .cells #[.int .i64 0, .slice none 0 0] 85 (0, 0)) (by (with_reducible repeat (first | refine blk_drewN ?_ _ | refine blk_drew ?_ | refine blk_alloc ?_ _)); exact BK276.out)) : gb283 ≠ gb276)); clear HO280; clear BK276; clear HB; have HO280 := n0_; have BK276 := n1_; have HB := n2_; have BK283 := n3_; have GW283 := n4_; have GE283 := n5_; have NB276_283 := n6_; have NB283_276 := n7_; clear n0_ n1_ n2_ n3_ n4_ n5_ n6_ n7_; clear hb hbox hg; have hnb17 := NB283_276.out; have hnc17 := NB276_283.out; have hcz18_0 : w16.cell? ⟨gb283, 0, none⟩ = some (.int .i64 0) := (blk_cell BK283.out 0).trans rfl; have hcz18_1 : w16.cell? ⟨gb283, 1, none⟩ = some (.slice none 0 0) := (blk_cell BK283.out 1).trans rfl; have hfz18_0 := blk_frozen BK283.out 0; have hfz18_1 := blk_frozen BK283.out 1; obtain ⟨Ao19, co19, eo19⟩ := Kd.R_slice HO280.out; subst eo19))
            have n0_ : Aside0 (Kd.R k85 85 ((w16.setCell ⟨gb283, 0, none⟩ (.int .i64 t277)).setCell ⟨gb283, 1, none⟩ (.slice Ao19 t278.length co19)) w.heap.size (fun k_ => k_ ≠ gb276 ∧ k_ ≠ gb283) (.slice Ao19 t278.length co19) t278) := ⟨by (with_reducible repeat (first | apply Kd.R_alloc | apply Kd.R_drewN | apply Kd.R_drew)); exact Kd.R_mono (Kd.R_far (p := ⟨gb283, 1, none⟩) (Kd.R_far (p := ⟨gb283, 0, none⟩) (Kd.R_mono HO280.out (fun k_ hk => (⟨hk, hk.2⟩ : _ ∧ k_ ≠ gb283))) (fun _ hk => hk.2) (.int .i64 t277)) (fun _ hk => hk.2) (.slice Ao19 t278.length co19)) (fun _ hk => ⟨hk.1.1.2, hk.1.2⟩)⟩
            have n1_ : Aside0 (((w16.setCell ⟨gb283, 0, none⟩ (.int .i64 t277)).setCell ⟨gb283, 1, none⟩ (.slice Ao19 t278.length co19)).heap[gb276]? = some (.cells #[.int .i64 0, .slice none 0 0] 85 (0, 0))) := ⟨by (with_reducible repeat (first | refine blk_drewN ?_ _ | refine blk_drew ?_ | refine blk_alloc ?_ _)); refine blk_far ?_ NB276_283.out _; (with_reducible repeat (first | refine blk_drewN ?_ _ | refine blk_drew ?_ | refine blk_alloc ?_ _)); refine blk_far ?_ NB276_283.out _; (with_reducible repeat (first | refine blk_drewN ?_ _ | refine blk_drew ?_ | refine blk_alloc ?_ _)); exact BK276.out⟩
            have n2_ : Aside0 (((w16.setCell ⟨gb283, 0, none⟩ (.int .i64 t277)).setCell ⟨gb283, 1, none⟩ (.slice Ao19 t278.length co19)).heap[gb283]? = some (.cells #[.int .i64 t277, .slice Ao19 t278.length co19] 85 (0, 0))) := ⟨by (with_reducible repeat (first | refine blk_drewN ?_ _ | refine blk_drew ?_ | refine blk_alloc ?_ _)); refine blk_put (cs := #[.int .i64 t277, .slice none 0 0]) ?_ 1 _ rfl; (with_reducible repeat (first | refine blk_drewN ?_ _ | refine blk_drew ?_ | refine blk_alloc ?_ _)); refine blk_put (cs := #[.int .i64 0, .slice none 0 0]) ?_ 0 _ rfl; (with_reducible repeat (first | refine blk_drewN ?_ _ | refine blk_drew ?_ | refine blk_alloc ?_ _)); exact BK283.out⟩
            have n3_ : Aside0 (Below w.heap.size w ((w16.setCell ⟨gb283, 0, none⟩ (.int .i64 t277)).setCell ⟨gb283, 1, none⟩ (.slice Ao19 t278.length co19))) := ⟨by repeat (first | (with_reducible first | exact HB.out | apply below_alloc | apply pw_below_drewN | apply below_drew1 | refine below_set ?_ GE276.out | refine below_set ?_ GE283.out) | exact HB.out)⟩
            (try clear HO280)
            (try clear BK276)
            (try clear BK283)
            (try clear HB)
            generalize ((w16.setCell ⟨gb283, 0, none⟩ (.int .i64 t277)).setCell ⟨gb283, 1, none⟩ (.slice Ao19 t278.length co19)) = w20 at n0_ n1_ n2_ n3_ ⊢
            have HO280 := n0_
            have BK276 := n1_
            have BK283 := n2_
            have HB := n3_
            clear n0_ n1_ n2_ n3_
            have n0_ := Aside0.mk (Kd.R_drew HO280.out)
            have n1_ := Aside0.mk (blk_drew BK276.out)
            have n2_ := Aside0.mk (blk_drew BK283.out)
            have n3_ := Aside0.mk (below_drew1 HB.out)
            clear HO280
            clear BK276
            clear BK283
            clear HB
            have HO280 := n0_
            have BK276 := n1_
            have BK283 := n2_
            have HB := n3_
            clear n0_ n1_ n2_ n3_
            refine start_ (n := 18) (S := fun w' => w'.cell? ⟨gb283, 0, none⟩ = some (.int .i64 t277) ∧ w'.cell? ⟨gb283, 1, none⟩ = some (.slice Ao19 t278.length co19)) (ds := []) #[false, false, false, false, false, false, false, false, false, false, false, false, false, false, false, false, false, false] (by kernel_rfl) rfl rfl ⟨(blk_cell BK283.out 0).trans rfl, (blk_cell BK283.out 1).trans rfl⟩ (fun hHeld => ?_); refine with_tabW drovewayref05_tree.tab4 drovewayref05_tree.bits4 (fun HT_ HW_ => ?_)
            generalize w20.drew = w21 at HO280 BK276 BK283 HB hHeld ⊢
            refine pure_ (i := 1) (N := some 24) (v := ?_) (a' := ?_) #[false, true, false, false, false, false, false, false, false, false, false, false, false, false, false, false, false, false] rfl rfl (any_of HT_.out (by kernel_rfl)) (fun _ _ _ h => h) (Or.inl ⟨by rfl, ?_⟩) ?_ ?_
            rotate_left
            · intro w'
              go_simp
              with_reducible rfl
            rotate_left
            · simp only [Act.put, List.setIfInBounds_toArray, List.set_cons_zero, List.set_cons_succ, i64_w, i32_w]
              rfl
            refine pure_ (i := 2) (N := some 25) (v := ?_) (a' := ?_) #[false, true, true, false, false, false, false, false, false, false, false, false, false, false, false, false, false, false] rfl rfl (any_of HT_.out (by kernel_rfl)) (fun _ _ _ h => h) (Or.inl ⟨by rfl, ?_⟩) ?_ ?_
            rotate_left
            · intro w'
              go_simp
              with_reducible rfl
            rotate_left
            · simp only [Act.put, List.setIfInBounds_toArray, List.set_cons_zero, List.set_cons_succ, i64_w, i32_w]
              rfl
            refine pure_ (i := 3) (N := some 26) (v := ?_) (a' := ?_) #[false, true, true, true, false, false, false, false, false, false, false, false, false, false, false, false, false, false] rfl rfl (any_of HT_.out (by kernel_rfl)) (fun _ _ _ h => h) (Or.inl ⟨by rfl, ?_⟩) ?_ ?_
            rotate_left
            · intro w'
              go_simp
              with_reducible rfl
            rotate_left
            · simp only [Act.put, List.setIfInBounds_toArray, List.set_cons_zero, List.set_cons_succ, i64_w, i32_w]
              rfl
            refine pure_ (i := 4) (N := some 27) (v := ?_) (a' := ?_) #[false, true, true, true, true, false, false, false, false, false, false, false, false, false, false, false, false, false] rfl rfl (any_of HT_.out (by kernel_rfl)) (fun _ _ _ h => h) (Or.inl ⟨by rfl, ?_⟩) ?_ ?_
            rotate_left
            · intro w'
              go_simp
              with_reducible rfl
            rotate_left
            · simp only [Act.put, List.setIfInBounds_toArray, List.set_cons_zero, List.set_cons_succ, i64_w, i32_w]
              rfl
            refine pure_ (i := 5) (N := some 28) (v := ?_) (a' := ?_) #[false, true, true, true, true, true, false, false, false, false, false, false, false, false, false, false, false, false] rfl rfl (any_of HT_.out (by kernel_rfl)) (fun _ _ _ h => h) (Or.inl ⟨by rfl, ?_⟩) ?_ ?_
            rotate_left
            · intro w'
              go_simp
              with_reducible rfl
            rotate_left
            · simp only [Act.put, List.setIfInBounds_toArray, List.set_cons_zero, List.set_cons_succ, i64_w, i32_w]
              rfl
            refine pure_ (i := 6) (N := some 29) (v := ?_) (a' := ?_) #[false, true, true, true, true, true, true, false, false, false, false, false, false, false, false, false, false, false] rfl rfl (any_of HT_.out (by kernel_rfl)) (fun _ _ _ h => h) (Or.inl ⟨by rfl, ?_⟩) ?_ ?_
            rotate_left
            · intro w'
              go_simp
              with_reducible rfl
            rotate_left
            · simp only [Act.put, List.setIfInBounds_toArray, List.set_cons_zero, List.set_cons_succ, i64_w, i32_w]
              rfl
            refine pure_ (i := 7) (N := some 30) (v := ?_) (a' := ?_) #[false, true, true, true, true, true, true, true, false, false, false, false, false, false, false, false, false, false] rfl rfl (any_of HT_.out (by kernel_rfl)) (fun _ _ _ h => h) (Or.inl ⟨by rfl, ?_⟩) ?_ ?_
            rotate_left
            · intro w'
              go_simp
              with_reducible rfl
            rotate_left
            · simp only [Act.put, List.setIfInBounds_toArray, List.set_cons_zero, List.set_cons_succ, i64_w, i32_w]
              rfl
            refine pure_ (i := 8) (N := some 31) (v := ?_) (a' := ?_) #[false, true, true, true, true, true, true, true, true, false, false, false, false, false, false, false, false, false] rfl rfl (any_of HT_.out (by kernel_rfl)) (fun _ _ _ h => h) (Or.inl ⟨by rfl, ?_⟩) ?_ ?_
            rotate_left
            · intro w'
              go_simp
              with_reducible rfl
            rotate_left
            · simp only [Act.put, List.setIfInBounds_toArray, List.set_cons_zero, List.set_cons_succ, i64_w, i32_w]
              rfl
            refine pure_ (i := 9) (N := some 32) (v := ?_) (a' := ?_) #[false, true, true, true, true, true, true, true, true, true, false, false, false, false, false, false, false, false] rfl rfl (any_of HT_.out (by kernel_rfl)) (fun _ _ _ h => h) (Or.inl ⟨by rfl, ?_⟩) ?_ ?_
            rotate_left
            · intro w'
              go_simp
              with_reducible rfl
            rotate_left
            · simp only [Act.put, List.setIfInBounds_toArray, List.set_cons_zero, List.set_cons_succ, i64_w, i32_w]
              rfl
            refine pure_ (i := 11) (N := some 34) (v := ?_) (a' := ?_) #[false, true, true, true, true, true, true, true, true, true, false, true, false, false, false, false, false, false] rfl rfl (any_of HT_.out (by kernel_rfl)) (fun _ _ _ h => h) (Or.inl ⟨by rfl, ?_⟩) ?_ ?_
            rotate_left
            · intro w'
              go_simp
              with_reducible rfl
            rotate_left
            · simp only [Act.put, List.setIfInBounds_toArray, List.set_cons_zero, List.set_cons_succ, i64_w, i32_w]
              rfl
            refine pure_ (i := 12) (N := some 35) (v := ?_) (a' := ?_) #[false, true, true, true, true, true, true, true, true, true, false, true, true, false, false, false, false, false] rfl rfl (any_of HT_.out (by kernel_rfl)) (fun _ _ _ h => h) (Or.inl ⟨by rfl, ?_⟩) ?_ ?_
            rotate_left
            · intro w'
              go_simp
              with_reducible rfl
            rotate_left
            · simp only [Act.put, List.setIfInBounds_toArray, List.set_cons_zero, List.set_cons_succ, i64_w, i32_w]
              rfl
            refine pure_ (i := 13) (N := some 36) (v := ?_) (a' := ?_) #[false, true, true, true, true, true, true, true, true, true, false, true, true, true, false, false, false, false] rfl rfl (any_of HT_.out (by kernel_rfl)) (fun _ _ _ h => h) (Or.inl ⟨by rfl, ?_⟩) ?_ ?_
            rotate_left
            · intro w'
              go_simp
              with_reducible rfl
            rotate_left
            · simp only [Act.put, List.setIfInBounds_toArray, List.set_cons_zero, List.set_cons_succ, i64_w, i32_w]
              rfl
            refine take_ (i := 0) (N := some 23) (v := ?_) (a' := ?_) #[true, true, true, true, true, true, true, true, true, true, false, true, true, true, false, false, false, false] rfl rfl (take_ofW HT_.out HW_.out (by kernel_rfl)) (fun _ _ _ h => h) (Or.inl ⟨by rfl, ?_⟩) hHeld ?_ ?_
            rotate_left
            · rintro w' ⟨s0, s1⟩
              go_simp
              with_reducible rfl
            rotate_left
            · simp only [Act.put, List.setIfInBounds_toArray, List.set_cons_zero, List.set_cons_succ, i64_w, i32_w]
              rfl
            refine take_ (i := 10) (N := some 33) (v := ?_) (a' := ?_) #[true, true, true, true, true, true, true, true, true, true, true, true, true, true, false, false, false, false] rfl rfl (take_ofW HT_.out HW_.out (by kernel_rfl)) (fun _ _ _ h => h) (Or.inl ⟨by rfl, ?_⟩) hHeld ?_ ?_
            rotate_left
            · rintro w' ⟨s0, s1⟩
              go_simp
              with_reducible rfl
            rotate_left
            · simp only [Act.put, List.setIfInBounds_toArray, List.set_cons_zero, List.set_cons_succ, i64_w, i32_w]
              rfl
            refine pure_ (i := 14) (N := some 37) (v := ?_) (a' := ?_) #[true, true, true, true, true, true, true, true, true, true, true, true, true, true, true, false, false, false] rfl rfl (any_of HT_.out (by kernel_rfl)) (fun _ _ _ h => h) (Or.inl ⟨by rfl, ?_⟩) ?_ ?_
            rotate_left
            · intro w'
              go_simp
              with_reducible rfl
            rotate_left
            · simp only [Act.put, List.setIfInBounds_toArray, List.set_cons_zero, List.set_cons_succ, i64_w, i32_w]
              rfl
            refine pure_ (i := 15) (N := some 38) (v := ?_) (a' := ?_) #[true, true, true, true, true, true, true, true, true, true, true, true, true, true, true, true, false, false] rfl rfl (any_of HT_.out (by kernel_rfl)) (fun _ _ _ h => h) (Or.inl ⟨by rfl, ?_⟩) ?_ ?_
            rotate_left
            · intro w'
              go_simp
              with_reducible rfl
            rotate_left
            · simp only [Act.put, List.setIfInBounds_toArray, List.set_cons_zero, List.set_cons_succ, i64_w, i32_w]
              rfl
            refine one_ (i := 16) (N := none) #[true, true, true, true, true, true, true, true, true, true, true, true, true, true, true, true, true, false] rfl rfl (one_of HT_.out (by kernel_rfl)) (by decide) (fun K hK => ?_)
            have hs22 : w21.cell? ⟨gb276, 0, none⟩ = some (.int .i64 0) := (blk_cell BK276.out 0).trans rfl
            have hfs22 := blk_frozen BK276.out 0
            have hns22_1 := NB283_276.out
            have hms22_1 := NB276_283.out
            have hs23 : w21.cell? ⟨gb276, 1, none⟩ = some (.slice none 0 0) := (blk_cell BK276.out 1).trans rfl
            have hfs23 := blk_frozen BK276.out 1
            have hns23_1 := NB283_276.out
            have hms23_1 := NB276_283.out
            refine skip_ (w1 := ?_) (by rfl) rfl ?_ ?_
            rotate_left
            · go_simp
              rfl
            refine hK.out _ _ ⟨((cell_far (p := ⟨gb276, _, none⟩) NB283_276.out _).trans (((cell_far (p := ⟨gb276, _, none⟩) NB283_276.out _).trans (hHeld.1)))), ((cell_far (p := ⟨gb276, _, none⟩) NB283_276.out _).trans (((cell_far (p := ⟨gb276, _, none⟩) NB283_276.out _).trans (hHeld.2))))⟩ (fun hHeld => ?_)
            clear hK K
            refine pure_ (i := 17) (N := some 5) (v := ?_) (a' := ?_) #[true, true, true, true, true, true, true, true, true, true, true, true, true, true, true, true, true, true] rfl rfl (any_of HT_.out (by kernel_rfl)) (fun _ _ _ h => h) (Or.inl ⟨by rfl, ?_⟩) ?_ ?_
            rotate_left
            · intro w'
              go_simp
              with_reducible rfl
            rotate_left
            · simp only [Act.put, List.setIfInBounds_toArray, List.set_cons_zero, List.set_cons_succ, i64_w, i32_w]
              rfl
            refine done_ (done_of HT_.out (by kernel_rfl)) ?_
            try go_wp2
            refine bodyPost_ret (results_ct rfl _ _ gb276 85 #[.int .i64 t277, .slice Ao19 t278.length co19] (0, 0) _ rfl (by (with_reducible repeat (first | refine blk_drewN ?_ _ | refine blk_drew ?_ | refine blk_alloc ?_ _)); refine blk_put (cs := #[.int .i64 t277, .slice none 0 0]) ?_ 1 _ rfl; (with_reducible repeat (first | refine blk_drewN ?_ _ | refine blk_drew ?_ | refine blk_alloc ?_ _)); refine blk_put (cs := #[.int .i64 0, .slice none 0 0]) ?_ 0 _ rfl; (with_reducible repeat (first | refine blk_drewN ?_ _ | refine blk_drew ?_ | refine blk_alloc ?_ _)); exact BK276.out) Tryd.underlying85 rfl (by kernel_rfl)) rfl ?_
            exact ⟨_, by first | rfl | (simp [errW_none, errW_some] <;> rfl) | (simp only [← hji13]; first | rfl | (simp [errW_none, errW_some] <;> rfl)) | (simp [*, errW_none, errW_some] <;> rfl), by (with_reducible repeat (first | apply Kd.R_alloc | apply Kd.R_drewN | apply Kd.R_drew)); exact Kd.R_mono (Kd.R_far (p := ⟨gb276, 1, none⟩) (Kd.R_far (p := ⟨gb276, 0, none⟩) (Kd.R_mono HO280.out (fun k_ hk => (⟨hk, hk.1⟩ : _ ∧ k_ ≠ gb276))) (fun _ hk => hk.2) (.int .i64 t277)) (fun _ hk => hk.2) (.slice Ao19 t278.length co19)) (fun _ hk => trivial), by repeat (first | (with_reducible first | exact HB.out | apply below_alloc | apply pw_below_drewN | apply below_drew1 | refine below_set ?_ GE276.out | refine below_set ?_ GE283.out) | exact HB.out)⟩
          · rw [if_neg c12] at H
            exact absurd H (by simp)
        · rw [if_neg c11] at H
          have c11b0 : (t281 == (a1.size : Int)) = false := beq_eq_false_iff_ne.mpr c11
          have c11b1 : (t281 != (a1.size : Int)) = true := bne_iff_ne.mpr c11
          simp only [Option.some.injEq, Prod.mk.injEq] at H
          obtain ⟨rfl, rfl, rfl⟩ := H
          go_enter Tryd.func62, Tryd.ntmps62
          try go_wp2_with (first | ((with_reducible refine gate_dst (N := 4) rfl ?_); (try (refine gate_guard (by rfl) ?_; dsimp only)); refine box_event ?hg (N := 4) ?hd (cs := #[.int .i64 0, .slice none 0 0]) (t := 85) ?hr ?_; (case hd => rfl); (case hg => rfl); (case hr => first | (go_simp; done) | (go_simp; rfl)); intro gb276 hg w24 hbox hb; have n0_ := Aside0.mk (below_step (by repeat (first | (with_reducible first | exact HB.out | apply below_alloc | apply pw_below_drewN | apply below_drew1) | exact HB.out)) hb); have n1_ := Aside0.mk (hbox); have n2_ := Aside0.mk ((by rw [hg]; exact (below_size (by repeat (first | (with_reducible first | exact HB.out | apply below_alloc | apply pw_below_drewN | apply below_drew1) | exact HB.out))) : w.heap.size ≤ gb276)); have n3_ := Aside0.mk ((by rw [hg]; exact (below_size (by repeat (first | (with_reducible first | exact HB.out | apply below_alloc | apply pw_below_drewN | apply below_drew1) | exact HB.out))) : w.heap.size ≤ gb276)); clear HB; have HB := n0_; have BK276 := n1_; have GW276 := n2_; have GE276 := n3_; clear n0_ n1_ n2_ n3_; clear hb hbox hg) | ((with_reducible refine gate_callee (f := 78) rfl ?_); refine goesL_ (some 19) rfl rfl Tryd.func78 (by kernel_rfl) rfl #[.int .i64 a0, .string a1, .int .i64 0] rfl (by (try simp only [List.map_toArray, List.map_cons, List.map_nil]); first | done | rfl | (simp only [List.length_drop, List.length_take]; rfl)) ?_; (with_reducible refine (drovewayref05_read.calls k a0 a1 0 t277 t278 t281 true _ A9.out).mono ?_); rintro e w25 ⟨v279, rfl, ho0, hb⟩; refine ⟨_, rfl, ?_⟩; have n0_ := Aside0.mk (Kd.R_lower (Kd.R_newB ho0 (g := gb276) (o := .cells #[.int .i64 0, .slice none 0 0] 85 (0, 0)) (by (with_reducible repeat (first | refine blk_drewN ?_ _ | refine blk_drew ?_ | refine blk_alloc ?_ _)); exact BK276.out)) (below_size (by repeat (first | (with_reducible first | exact HB.out | apply below_alloc | apply pw_below_drewN | apply below_drew1 | refine below_set ?_ GE276.out) | exact HB.out)))); have n1_ := Aside0.mk (blk_below (g := gb276) (o := .cells #[.int .i64 0, .slice none 0 0] 85 (0, 0)) (by (with_reducible repeat (first | refine blk_drewN ?_ _ | refine blk_drew ?_ | refine blk_alloc ?_ _)); exact BK276.out) hb); have n2_ := Aside0.mk (below_step (by repeat (first | (with_reducible first | exact HB.out | apply below_alloc | apply pw_below_drewN | apply below_drew1 | refine below_set ?_ GE276.out) | exact HB.out)) hb); clear BK276; clear HB; have HO280 := n0_; have BK276 := n1_; have HB := n2_; clear n0_ n1_ n2_; (try clear hb); (try clear hb2); (try clear hk); (try clear hi); (try clear ho0)) | ((with_reducible refine gate_dst (N := 6) rfl ?_); (try (refine gate_guard (by rfl) ?_; dsimp only)); refine box_event ?hg (N := 6) ?hd (cs := #[.int .i64 0, .slice none 0 0]) (t := 85) ?hr ?_; (case hd => rfl); (case hg => rfl); (case hr => first | (go_simp; done) | (go_simp; rfl)); intro gb283 hg w26 hbox hb; have n0_ := Aside0.mk (Kd.R_below (Kd.R_elderB (by (with_reducible repeat (first | apply Kd.R_alloc | apply Kd.R_drewN | apply Kd.R_drew)); exact HO280.out) gb283 (Nat.le_of_eq hg.symm)) hb); have n1_ := Aside0.mk (blk_below (g := gb276) (o := .cells #[.int .i64 0, .slice none 0 0] 85 (0, 0)) (by (with_reducible repeat (first | refine blk_drewN ?_ _ | refine blk_drew ?_ | refine blk_alloc ?_ _)); exact BK276.out) hb); have n2_ := Aside0.mk (below_step (by repeat (first | (with_reducible first | exact HB.out | apply below_alloc | apply pw_below_drewN | apply below_drew1 | refine below_set ?_ GE276.out) | exact HB.out)) hb); have n3_ := Aside0.mk (hbox); have n4_ := Aside0.mk ((by rw [hg]; exact (below_size (by repeat (first | (with_reducible first | exact HB.out | apply below_alloc | apply pw_below_drewN | apply below_drew1 | refine below_set ?_ GE276.out) | exact HB.out))) : w.heap.size ≤ gb283)); have n5_ := Aside0.mk ((by rw [hg]; exact (below_size (by repeat (first | (with_reducible first | exact HB.out | apply below_alloc | apply pw_below_drewN | apply below_drew1 | refine below_set ?_ GE276.out) | exact HB.out))) : w.heap.size ≤ gb283)); have n6_ := Aside0.mk ((by rw [hg]; exact Nat.ne_of_lt (blk_lt (g := gb276) (o := .cells #[.int .i64 0, .slice none 0 0] 85 (0, 0)) (by (with_reducible repeat (first | refine blk_drewN ?_ _ | refine blk_drew ?_ | refine blk_alloc ?_ _)); exact BK276.out)) : gb276 ≠ gb283)); have n7_ := Aside0.mk ((by rw [hg]; exact Nat.ne_of_gt (blk_lt (g := gb276) (o := .cells #[.int .i64 0, .slice none 0 0] 85 (0, 0)) (by (with_reducible repeat (first | refine blk_drewN ?_ _ | refine blk_drew ?_ | refine blk_alloc ?_ _)); exact BK276.out)) : gb283 ≠ gb276)); clear HO280; clear BK276; clear HB; have HO280 := n0_; have BK276 := n1_; have HB := n2_; have BK283 := n3_; have GW283 := n4_; have GE283 := n5_; have NB276_283 := n6_; have NB283_276 := n7_; clear n0_ n1_ n2_ n3_ n4_ n5_ n6_ n7_; clear hb hbox hg; have hnb27 := NB283_276.out; have hnc27 := NB276_283.out; have hcz28_0 : w26.cell? ⟨gb283, 0, none⟩ = some (.int .i64 0) := (blk_cell BK283.out 0).trans rfl; have hcz28_1 : w26.cell? ⟨gb283, 1, none⟩ = some (.slice none 0 0) := (blk_cell BK283.out 1).trans rfl; have hfz28_0 := blk_frozen BK283.out 0; have hfz28_1 := blk_frozen BK283.out 1; obtain ⟨Ao29, co29, eo29⟩ := Kd.R_slice HO280.out; subst eo29))
          have n0_ : Aside0 (Kd.R k85 85 ((w26.setCell ⟨gb283, 0, none⟩ (.int .i64 t277)).setCell ⟨gb283, 1, none⟩ (.slice Ao29 t278.length co29)) w.heap.size (fun k_ => k_ ≠ gb276 ∧ k_ ≠ gb283) (.slice Ao29 t278.length co29) t278) := ⟨by (with_reducible repeat (first | apply Kd.R_alloc | apply Kd.R_drewN | apply Kd.R_drew)); exact Kd.R_mono (Kd.R_far (p := ⟨gb283, 1, none⟩) (Kd.R_far (p := ⟨gb283, 0, none⟩) (Kd.R_mono HO280.out (fun k_ hk => (⟨hk, hk.2⟩ : _ ∧ k_ ≠ gb283))) (fun _ hk => hk.2) (.int .i64 t277)) (fun _ hk => hk.2) (.slice Ao29 t278.length co29)) (fun _ hk => ⟨hk.1.1.2, hk.1.2⟩)⟩
          have n1_ : Aside0 (((w26.setCell ⟨gb283, 0, none⟩ (.int .i64 t277)).setCell ⟨gb283, 1, none⟩ (.slice Ao29 t278.length co29)).heap[gb276]? = some (.cells #[.int .i64 0, .slice none 0 0] 85 (0, 0))) := ⟨by (with_reducible repeat (first | refine blk_drewN ?_ _ | refine blk_drew ?_ | refine blk_alloc ?_ _)); refine blk_far ?_ NB276_283.out _; (with_reducible repeat (first | refine blk_drewN ?_ _ | refine blk_drew ?_ | refine blk_alloc ?_ _)); refine blk_far ?_ NB276_283.out _; (with_reducible repeat (first | refine blk_drewN ?_ _ | refine blk_drew ?_ | refine blk_alloc ?_ _)); exact BK276.out⟩
          have n2_ : Aside0 (((w26.setCell ⟨gb283, 0, none⟩ (.int .i64 t277)).setCell ⟨gb283, 1, none⟩ (.slice Ao29 t278.length co29)).heap[gb283]? = some (.cells #[.int .i64 t277, .slice Ao29 t278.length co29] 85 (0, 0))) := ⟨by (with_reducible repeat (first | refine blk_drewN ?_ _ | refine blk_drew ?_ | refine blk_alloc ?_ _)); refine blk_put (cs := #[.int .i64 t277, .slice none 0 0]) ?_ 1 _ rfl; (with_reducible repeat (first | refine blk_drewN ?_ _ | refine blk_drew ?_ | refine blk_alloc ?_ _)); refine blk_put (cs := #[.int .i64 0, .slice none 0 0]) ?_ 0 _ rfl; (with_reducible repeat (first | refine blk_drewN ?_ _ | refine blk_drew ?_ | refine blk_alloc ?_ _)); exact BK283.out⟩
          have n3_ : Aside0 (Below w.heap.size w ((w26.setCell ⟨gb283, 0, none⟩ (.int .i64 t277)).setCell ⟨gb283, 1, none⟩ (.slice Ao29 t278.length co29))) := ⟨by repeat (first | (with_reducible first | exact HB.out | apply below_alloc | apply pw_below_drewN | apply below_drew1 | refine below_set ?_ GE276.out | refine below_set ?_ GE283.out) | exact HB.out)⟩
          (try clear HO280)
          (try clear BK276)
          (try clear BK283)
          (try clear HB)
          generalize ((w26.setCell ⟨gb283, 0, none⟩ (.int .i64 t277)).setCell ⟨gb283, 1, none⟩ (.slice Ao29 t278.length co29)) = w30 at n0_ n1_ n2_ n3_ ⊢
          have HO280 := n0_
          have BK276 := n1_
          have BK283 := n2_
          have HB := n3_
          clear n0_ n1_ n2_ n3_
          have n0_ := Aside0.mk (Kd.R_drew HO280.out)
          have n1_ := Aside0.mk (blk_drew BK276.out)
          have n2_ := Aside0.mk (blk_drew BK283.out)
          have n3_ := Aside0.mk (below_drew1 HB.out)
          clear HO280
          clear BK276
          clear BK283
          clear HB
          have HO280 := n0_
          have BK276 := n1_
          have BK283 := n2_
          have HB := n3_
          clear n0_ n1_ n2_ n3_
          refine start_ (n := 18) (S := fun w' => w'.cell? ⟨gb283, 0, none⟩ = some (.int .i64 t277) ∧ w'.cell? ⟨gb283, 1, none⟩ = some (.slice Ao29 t278.length co29)) (ds := []) #[false, false, false, false, false, false, false, false, false, false, false, false, false, false, false, false, false, false] (by kernel_rfl) rfl rfl ⟨(blk_cell BK283.out 0).trans rfl, (blk_cell BK283.out 1).trans rfl⟩ (fun hHeld => ?_); refine with_tabW drovewayref05_tree.tab4 drovewayref05_tree.bits4 (fun HT_ HW_ => ?_)
          generalize w30.drew = w31 at HO280 BK276 BK283 HB hHeld ⊢
          refine pure_ (i := 1) (N := some 24) (v := ?_) (a' := ?_) #[false, true, false, false, false, false, false, false, false, false, false, false, false, false, false, false, false, false] rfl rfl (any_of HT_.out (by kernel_rfl)) (fun _ _ _ h => h) (Or.inl ⟨by rfl, ?_⟩) ?_ ?_
          rotate_left
          · intro w'
            go_simp
            with_reducible rfl
          rotate_left
          · simp only [Act.put, List.setIfInBounds_toArray, List.set_cons_zero, List.set_cons_succ, i64_w, i32_w]
            rfl
          refine pure_ (i := 2) (N := some 25) (v := ?_) (a' := ?_) #[false, true, true, false, false, false, false, false, false, false, false, false, false, false, false, false, false, false] rfl rfl (any_of HT_.out (by kernel_rfl)) (fun _ _ _ h => h) (Or.inl ⟨by rfl, ?_⟩) ?_ ?_
          rotate_left
          · intro w'
            go_simp
            with_reducible rfl
          rotate_left
          · simp only [Act.put, List.setIfInBounds_toArray, List.set_cons_zero, List.set_cons_succ, i64_w, i32_w]
            rfl
          refine pure_ (i := 3) (N := some 26) (v := ?_) (a' := ?_) #[false, true, true, true, false, false, false, false, false, false, false, false, false, false, false, false, false, false] rfl rfl (any_of HT_.out (by kernel_rfl)) (fun _ _ _ h => h) (Or.inl ⟨by rfl, ?_⟩) ?_ ?_
          rotate_left
          · intro w'
            go_simp
            with_reducible rfl
          rotate_left
          · simp only [Act.put, List.setIfInBounds_toArray, List.set_cons_zero, List.set_cons_succ, i64_w, i32_w]
            rfl
          refine pure_ (i := 4) (N := some 27) (v := ?_) (a' := ?_) #[false, true, true, true, true, false, false, false, false, false, false, false, false, false, false, false, false, false] rfl rfl (any_of HT_.out (by kernel_rfl)) (fun _ _ _ h => h) (Or.inl ⟨by rfl, ?_⟩) ?_ ?_
          rotate_left
          · intro w'
            go_simp
            with_reducible rfl
          rotate_left
          · simp only [Act.put, List.setIfInBounds_toArray, List.set_cons_zero, List.set_cons_succ, i64_w, i32_w]
            rfl
          refine pure_ (i := 5) (N := some 28) (v := ?_) (a' := ?_) #[false, true, true, true, true, true, false, false, false, false, false, false, false, false, false, false, false, false] rfl rfl (any_of HT_.out (by kernel_rfl)) (fun _ _ _ h => h) (Or.inl ⟨by rfl, ?_⟩) ?_ ?_
          rotate_left
          · intro w'
            go_simp
            with_reducible rfl
          rotate_left
          · simp only [Act.put, List.setIfInBounds_toArray, List.set_cons_zero, List.set_cons_succ, i64_w, i32_w]
            rfl
          refine pure_ (i := 6) (N := some 29) (v := ?_) (a' := ?_) #[false, true, true, true, true, true, true, false, false, false, false, false, false, false, false, false, false, false] rfl rfl (any_of HT_.out (by kernel_rfl)) (fun _ _ _ h => h) (Or.inl ⟨by rfl, ?_⟩) ?_ ?_
          rotate_left
          · intro w'
            go_simp
            with_reducible rfl
          rotate_left
          · simp only [Act.put, List.setIfInBounds_toArray, List.set_cons_zero, List.set_cons_succ, i64_w, i32_w]
            rfl
          refine pure_ (i := 7) (N := some 30) (v := ?_) (a' := ?_) #[false, true, true, true, true, true, true, true, false, false, false, false, false, false, false, false, false, false] rfl rfl (any_of HT_.out (by kernel_rfl)) (fun _ _ _ h => h) (Or.inl ⟨by rfl, ?_⟩) ?_ ?_
          rotate_left
          · intro w'
            go_simp
            with_reducible rfl
          rotate_left
          · simp only [Act.put, List.setIfInBounds_toArray, List.set_cons_zero, List.set_cons_succ, i64_w, i32_w]
            rfl
          refine pure_ (i := 8) (N := some 31) (v := ?_) (a' := ?_) #[false, true, true, true, true, true, true, true, true, false, false, false, false, false, false, false, false, false] rfl rfl (any_of HT_.out (by kernel_rfl)) (fun _ _ _ h => h) (Or.inl ⟨by rfl, ?_⟩) ?_ ?_
          rotate_left
          · intro w'
            go_simp
            with_reducible rfl
          rotate_left
          · simp only [Act.put, List.setIfInBounds_toArray, List.set_cons_zero, List.set_cons_succ, i64_w, i32_w]
            rfl
          refine pure_ (i := 9) (N := some 32) (v := undef) (a' := ?_) #[false, true, true, true, true, true, true, true, true, true, false, false, false, false, false, false, false, false] rfl rfl (any_of HT_.out (by kernel_rfl)) (fun _ _ _ h => h) (Or.inr ⟨by rfl, rfl⟩) ?_ ?_
          rotate_left
          · simp only [Act.put, List.setIfInBounds_toArray, List.set_cons_zero, List.set_cons_succ, i64_w, i32_w]
            rfl
          refine pure_ (i := 10) (N := some 33) (v := undef) (a' := ?_) #[false, true, true, true, true, true, true, true, true, true, true, false, false, false, false, false, false, false] rfl rfl (any_of HT_.out (by kernel_rfl)) (fun _ _ _ h => h) (Or.inr ⟨by rfl, rfl⟩) ?_ ?_
          rotate_left
          · simp only [Act.put, List.setIfInBounds_toArray, List.set_cons_zero, List.set_cons_succ, i64_w, i32_w]
            rfl
          refine pure_ (i := 11) (N := some 34) (v := undef) (a' := ?_) #[false, true, true, true, true, true, true, true, true, true, true, true, false, false, false, false, false, false] rfl rfl (any_of HT_.out (by kernel_rfl)) (fun _ _ _ h => h) (Or.inr ⟨by rfl, rfl⟩) ?_ ?_
          rotate_left
          · simp only [Act.put, List.setIfInBounds_toArray, List.set_cons_zero, List.set_cons_succ, i64_w, i32_w]
            rfl
          refine pure_ (i := 12) (N := some 35) (v := undef) (a' := ?_) #[false, true, true, true, true, true, true, true, true, true, true, true, true, false, false, false, false, false] rfl rfl (any_of HT_.out (by kernel_rfl)) (fun _ _ _ h => h) (Or.inr ⟨by rfl, rfl⟩) ?_ ?_
          rotate_left
          · simp only [Act.put, List.setIfInBounds_toArray, List.set_cons_zero, List.set_cons_succ, i64_w, i32_w]
            rfl
          refine pure_ (i := 13) (N := some 36) (v := undef) (a' := ?_) #[false, true, true, true, true, true, true, true, true, true, true, true, true, true, false, false, false, false] rfl rfl (any_of HT_.out (by kernel_rfl)) (fun _ _ _ h => h) (Or.inr ⟨by rfl, rfl⟩) ?_ ?_
          rotate_left
          · simp only [Act.put, List.setIfInBounds_toArray, List.set_cons_zero, List.set_cons_succ, i64_w, i32_w]
            rfl
          refine pure_ (i := 14) (N := some 37) (v := undef) (a' := ?_) #[false, true, true, true, true, true, true, true, true, true, true, true, true, true, true, false, false, false] rfl rfl (any_of HT_.out (by kernel_rfl)) (fun _ _ _ h => h) (Or.inr ⟨by rfl, rfl⟩) ?_ ?_
          rotate_left
          · simp only [Act.put, List.setIfInBounds_toArray, List.set_cons_zero, List.set_cons_succ, i64_w, i32_w]
            rfl
          refine pure_ (i := 15) (N := some 38) (v := ?_) (a' := ?_) #[false, true, true, true, true, true, true, true, true, true, true, true, true, true, true, true, false, false] rfl rfl (any_of HT_.out (by kernel_rfl)) (fun _ _ _ h => h) (Or.inl ⟨by rfl, ?_⟩) ?_ ?_
          rotate_left
          · intro w'
            go_simp
            with_reducible rfl
          rotate_left
          · simp only [Act.put, List.setIfInBounds_toArray, List.set_cons_zero, List.set_cons_succ, i64_w, i32_w]
            rfl
          refine take_ (i := 0) (N := some 23) (v := ?_) (a' := ?_) #[true, true, true, true, true, true, true, true, true, true, true, true, true, true, true, true, false, false] rfl rfl (take_ofW HT_.out HW_.out (by kernel_rfl)) (fun _ _ _ h => h) (Or.inl ⟨by rfl, ?_⟩) hHeld ?_ ?_
          rotate_left
          · rintro w' ⟨s0, s1⟩
            go_simp
            with_reducible rfl
          rotate_left
          · simp only [Act.put, List.setIfInBounds_toArray, List.set_cons_zero, List.set_cons_succ, i64_w, i32_w]
            rfl
          refine one_ (i := 16) (N := none) #[true, true, true, true, true, true, true, true, true, true, true, true, true, true, true, true, true, false] rfl rfl (one_of HT_.out (by kernel_rfl)) (by decide) (fun K hK => ?_)
          have hs32 : w31.cell? ⟨gb276, 0, none⟩ = some (.int .i64 0) := (blk_cell BK276.out 0).trans rfl
          have hfs32 := blk_frozen BK276.out 0
          have hns32_1 := NB283_276.out
          have hms32_1 := NB276_283.out
          have hs33 : w31.cell? ⟨gb276, 1, none⟩ = some (.slice none 0 0) := (blk_cell BK276.out 1).trans rfl
          have hfs33 := blk_frozen BK276.out 1
          have hns33_1 := NB283_276.out
          have hms33_1 := NB276_283.out
          refine skip_ (w1 := ?_) (by rfl) rfl ?_ ?_
          rotate_left
          · go_simp
            rfl
          refine hK.out _ _ ⟨((cell_far (p := ⟨gb276, _, none⟩) NB283_276.out _).trans (((cell_far (p := ⟨gb276, _, none⟩) NB283_276.out _).trans (hHeld.1)))), ((cell_far (p := ⟨gb276, _, none⟩) NB283_276.out _).trans (((cell_far (p := ⟨gb276, _, none⟩) NB283_276.out _).trans (hHeld.2))))⟩ (fun hHeld => ?_)
          clear hK K
          refine pure_ (i := 17) (N := some 5) (v := ?_) (a' := ?_) #[true, true, true, true, true, true, true, true, true, true, true, true, true, true, true, true, true, true] rfl rfl (any_of HT_.out (by kernel_rfl)) (fun _ _ _ h => h) (Or.inl ⟨by rfl, ?_⟩) ?_ ?_
          rotate_left
          · intro w'
            go_simp
            with_reducible rfl
          rotate_left
          · simp only [Act.put, List.setIfInBounds_toArray, List.set_cons_zero, List.set_cons_succ, i64_w, i32_w]
            rfl
          refine done_ (done_of HT_.out (by kernel_rfl)) ?_
          try go_wp2
          refine bodyPost_ret (results_ct rfl _ _ gb276 85 #[.int .i64 t277, .slice Ao29 t278.length co29] (0, 0) _ rfl (by (with_reducible repeat (first | refine blk_drewN ?_ _ | refine blk_drew ?_ | refine blk_alloc ?_ _)); refine blk_put (cs := #[.int .i64 t277, .slice none 0 0]) ?_ 1 _ rfl; (with_reducible repeat (first | refine blk_drewN ?_ _ | refine blk_drew ?_ | refine blk_alloc ?_ _)); refine blk_put (cs := #[.int .i64 0, .slice none 0 0]) ?_ 0 _ rfl; (with_reducible repeat (first | refine blk_drewN ?_ _ | refine blk_drew ?_ | refine blk_alloc ?_ _)); exact BK276.out) Tryd.underlying85 rfl (by kernel_rfl)) rfl ?_
          exact ⟨_, by first | rfl | (simp [errW_none, errW_some] <;> rfl) | (simp [*, errW_none, errW_some] <;> rfl), by (with_reducible repeat (first | apply Kd.R_alloc | apply Kd.R_drewN | apply Kd.R_drew)); exact Kd.R_mono (Kd.R_far (p := ⟨gb276, 1, none⟩) (Kd.R_far (p := ⟨gb276, 0, none⟩) (Kd.R_mono HO280.out (fun k_ hk => (⟨hk, hk.1⟩ : _ ∧ k_ ≠ gb276))) (fun _ hk => hk.2) (.int .i64 t277)) (fun _ hk => hk.2) (.slice Ao29 t278.length co29)) (fun _ hk => trivial), by repeat (first | (with_reducible first | exact HB.out | apply below_alloc | apply pw_below_drewN | apply below_drew1 | refine below_set ?_ GE276.out | refine below_set ?_ GE283.out) | exact HB.out)⟩
      · replace c10 := Bool.eq_false_iff.mpr c10
        subst c10
        have H1 : (some (t277, t278, false)) = some (r1, r2, r3) := by rw [if_neg (show ¬ (false = true) by decide)] at H; exact H
        clear H
        have H := H1
        clear H1
        simp only [Option.some.injEq, Prod.mk.injEq] at H
        obtain ⟨rfl, rfl, rfl⟩ := H
        go_enter Tryd.func62, Tryd.ntmps62
        try go_wp2_with (first | ((with_reducible refine gate_dst (N := 4) rfl ?_); (try (refine gate_guard (by rfl) ?_; dsimp only)); refine box_event ?hg (N := 4) ?hd (cs := #[.int .i64 0, .slice none 0 0]) (t := 85) ?hr ?_; (case hd => rfl); (case hg => rfl); (case hr => first | (go_simp; done) | (go_simp; rfl)); intro gb276 hg w34 hbox hb; have n0_ := Aside0.mk (below_step (by repeat (first | (with_reducible first | exact HB.out | apply below_alloc | apply pw_below_drewN | apply below_drew1) | exact HB.out)) hb); have n1_ := Aside0.mk (hbox); have n2_ := Aside0.mk ((by rw [hg]; exact (below_size (by repeat (first | (with_reducible first | exact HB.out | apply below_alloc | apply pw_below_drewN | apply below_drew1) | exact HB.out))) : w.heap.size ≤ gb276)); have n3_ := Aside0.mk ((by rw [hg]; exact (below_size (by repeat (first | (with_reducible first | exact HB.out | apply below_alloc | apply pw_below_drewN | apply below_drew1) | exact HB.out))) : w.heap.size ≤ gb276)); clear HB; have HB := n0_; have BK276 := n1_; have GW276 := n2_; have GE276 := n3_; clear n0_ n1_ n2_ n3_; clear hb hbox hg) | ((with_reducible refine gate_callee (f := 78) rfl ?_); refine goesL_ (some 19) rfl rfl Tryd.func78 (by kernel_rfl) rfl #[.int .i64 a0, .string a1, .int .i64 0] rfl (by (try simp only [List.map_toArray, List.map_cons, List.map_nil]); first | done | rfl | (simp only [List.length_drop, List.length_take]; rfl)) ?_; (with_reducible refine (drovewayref05_read.calls k a0 a1 0 t277 t278 t281 false _ A9.out).mono ?_); rintro e w35 ⟨v279, rfl, ho0, hb⟩; refine ⟨_, rfl, ?_⟩; have n0_ := Aside0.mk (Kd.R_lower (Kd.R_newB ho0 (g := gb276) (o := .cells #[.int .i64 0, .slice none 0 0] 85 (0, 0)) (by (with_reducible repeat (first | refine blk_drewN ?_ _ | refine blk_drew ?_ | refine blk_alloc ?_ _)); exact BK276.out)) (below_size (by repeat (first | (with_reducible first | exact HB.out | apply below_alloc | apply pw_below_drewN | apply below_drew1 | refine below_set ?_ GE276.out) | exact HB.out)))); have n1_ := Aside0.mk (blk_below (g := gb276) (o := .cells #[.int .i64 0, .slice none 0 0] 85 (0, 0)) (by (with_reducible repeat (first | refine blk_drewN ?_ _ | refine blk_drew ?_ | refine blk_alloc ?_ _)); exact BK276.out) hb); have n2_ := Aside0.mk (below_step (by repeat (first | (with_reducible first | exact HB.out | apply below_alloc | apply pw_below_drewN | apply below_drew1 | refine below_set ?_ GE276.out) | exact HB.out)) hb); clear BK276; clear HB; have HO280 := n0_; have BK276 := n1_; have HB := n2_; clear n0_ n1_ n2_; (try clear hb); (try clear hb2); (try clear hk); (try clear hi); (try clear ho0)) | ((with_reducible refine gate_dst (N := 6) rfl ?_); (try (refine gate_guard (by rfl) ?_; dsimp only)); refine box_event ?hg (N := 6) ?hd (cs := #[.int .i64 0, .slice none 0 0]) (t := 85) ?hr ?_; (case hd => rfl); (case hg => rfl); (case hr => first | (go_simp; done) | (go_simp; rfl)); intro gb283 hg w36 hbox hb; have n0_ := Aside0.mk (Kd.R_below (Kd.R_elderB (by (with_reducible repeat (first | apply Kd.R_alloc | apply Kd.R_drewN | apply Kd.R_drew)); exact HO280.out) gb283 (Nat.le_of_eq hg.symm)) hb); have n1_ := Aside0.mk (blk_below (g := gb276) (o := .cells #[.int .i64 0, .slice none 0 0] 85 (0, 0)) (by (with_reducible repeat (first | refine blk_drewN ?_ _ | refine blk_drew ?_ | refine blk_alloc ?_ _)); exact BK276.out) hb); have n2_ := Aside0.mk (below_step (by repeat (first | (with_reducible first | exact HB.out | apply below_alloc | apply pw_below_drewN | apply below_drew1 | refine below_set ?_ GE276.out) | exact HB.out)) hb); have n3_ := Aside0.mk (hbox); have n4_ := Aside0.mk ((by rw [hg]; exact (below_size (by repeat (first | (with_reducible first | exact HB.out | apply below_alloc | apply pw_below_drewN | apply below_drew1 | refine below_set ?_ GE276.out) | exact HB.out))) : w.heap.size ≤ gb283)); have n5_ := Aside0.mk ((by rw [hg]; exact (below_size (by repeat (first | (with_reducible first | exact HB.out | apply below_alloc | apply pw_below_drewN | apply below_drew1 | refine below_set ?_ GE276.out) | exact HB.out))) : w.heap.size ≤ gb283)); have n6_ := Aside0.mk ((by rw [hg]; exact Nat.ne_of_lt (blk_lt (g := gb276) (o := .cells #[.int .i64 0, .slice none 0 0] 85 (0, 0)) (by (with_reducible repeat (first | refine blk_drewN ?_ _ | refine blk_drew ?_ | refine blk_alloc ?_ _)); exact BK276.out)) : gb276 ≠ gb283)); have n7_ := Aside0.mk ((by rw [hg]; exact Nat.ne_of_gt (blk_lt (g := gb276) (o := .cells #[.int .i64 0, .slice none 0 0] 85 (0, 0)) (by (with_reducible repeat (first | refine blk_drewN ?_ _ | refine blk_drew ?_ | refine blk_alloc ?_ _)); exact BK276.out)) : gb283 ≠ gb276)); clear HO280; clear BK276; clear HB; have HO280 := n0_; have BK276 := n1_; have HB := n2_; have BK283 := n3_; have GW283 := n4_; have GE283 := n5_; have NB276_283 := n6_; have NB283_276 := n7_; clear n0_ n1_ n2_ n3_ n4_ n5_ n6_ n7_; clear hb hbox hg; have hnb37 := NB283_276.out; have hnc37 := NB276_283.out; have hcz38_0 : w36.cell? ⟨gb283, 0, none⟩ = some (.int .i64 0) := (blk_cell BK283.out 0).trans rfl; have hcz38_1 : w36.cell? ⟨gb283, 1, none⟩ = some (.slice none 0 0) := (blk_cell BK283.out 1).trans rfl; have hfz38_0 := blk_frozen BK283.out 0; have hfz38_1 := blk_frozen BK283.out 1; obtain ⟨Ao39, co39, eo39⟩ := Kd.R_slice HO280.out; subst eo39))
        have n0_ : Aside0 (Kd.R k85 85 ((w36.setCell ⟨gb283, 0, none⟩ (.int .i64 t277)).setCell ⟨gb283, 1, none⟩ (.slice Ao39 t278.length co39)) w.heap.size (fun k_ => k_ ≠ gb276 ∧ k_ ≠ gb283) (.slice Ao39 t278.length co39) t278) := ⟨by (with_reducible repeat (first | apply Kd.R_alloc | apply Kd.R_drewN | apply Kd.R_drew)); exact Kd.R_mono (Kd.R_far (p := ⟨gb283, 1, none⟩) (Kd.R_far (p := ⟨gb283, 0, none⟩) (Kd.R_mono HO280.out (fun k_ hk => (⟨hk, hk.2⟩ : _ ∧ k_ ≠ gb283))) (fun _ hk => hk.2) (.int .i64 t277)) (fun _ hk => hk.2) (.slice Ao39 t278.length co39)) (fun _ hk => ⟨hk.1.1.2, hk.1.2⟩)⟩
        have n1_ : Aside0 (((w36.setCell ⟨gb283, 0, none⟩ (.int .i64 t277)).setCell ⟨gb283, 1, none⟩ (.slice Ao39 t278.length co39)).heap[gb276]? = some (.cells #[.int .i64 0, .slice none 0 0] 85 (0, 0))) := ⟨by (with_reducible repeat (first | refine blk_drewN ?_ _ | refine blk_drew ?_ | refine blk_alloc ?_ _)); refine blk_far ?_ NB276_283.out _; (with_reducible repeat (first | refine blk_drewN ?_ _ | refine blk_drew ?_ | refine blk_alloc ?_ _)); refine blk_far ?_ NB276_283.out _; (with_reducible repeat (first | refine blk_drewN ?_ _ | refine blk_drew ?_ | refine blk_alloc ?_ _)); exact BK276.out⟩
        have n2_ : Aside0 (((w36.setCell ⟨gb283, 0, none⟩ (.int .i64 t277)).setCell ⟨gb283, 1, none⟩ (.slice Ao39 t278.length co39)).heap[gb283]? = some (.cells #[.int .i64 t277, .slice Ao39 t278.length co39] 85 (0, 0))) := ⟨by (with_reducible repeat (first | refine blk_drewN ?_ _ | refine blk_drew ?_ | refine blk_alloc ?_ _)); refine blk_put (cs := #[.int .i64 t277, .slice none 0 0]) ?_ 1 _ rfl; (with_reducible repeat (first | refine blk_drewN ?_ _ | refine blk_drew ?_ | refine blk_alloc ?_ _)); refine blk_put (cs := #[.int .i64 0, .slice none 0 0]) ?_ 0 _ rfl; (with_reducible repeat (first | refine blk_drewN ?_ _ | refine blk_drew ?_ | refine blk_alloc ?_ _)); exact BK283.out⟩
        have n3_ : Aside0 (Below w.heap.size w ((w36.setCell ⟨gb283, 0, none⟩ (.int .i64 t277)).setCell ⟨gb283, 1, none⟩ (.slice Ao39 t278.length co39))) := ⟨by repeat (first | (with_reducible first | exact HB.out | apply below_alloc | apply pw_below_drewN | apply below_drew1 | refine below_set ?_ GE276.out | refine below_set ?_ GE283.out) | exact HB.out)⟩
        (try clear HO280)
        (try clear BK276)
        (try clear BK283)
        (try clear HB)
        generalize ((w36.setCell ⟨gb283, 0, none⟩ (.int .i64 t277)).setCell ⟨gb283, 1, none⟩ (.slice Ao39 t278.length co39)) = w40 at n0_ n1_ n2_ n3_ ⊢
        have HO280 := n0_
        have BK276 := n1_
        have BK283 := n2_
        have HB := n3_
        clear n0_ n1_ n2_ n3_
        have n0_ := Aside0.mk (Kd.R_drew HO280.out)
        have n1_ := Aside0.mk (blk_drew BK276.out)
        have n2_ := Aside0.mk (blk_drew BK283.out)
        have n3_ := Aside0.mk (below_drew1 HB.out)
        clear HO280
        clear BK276
        clear BK283
        clear HB
        have HO280 := n0_
        have BK276 := n1_
        have BK283 := n2_
        have HB := n3_
        clear n0_ n1_ n2_ n3_
        refine start_ (n := 18) (S := fun w' => w'.cell? ⟨gb283, 0, none⟩ = some (.int .i64 t277) ∧ w'.cell? ⟨gb283, 1, none⟩ = some (.slice Ao39 t278.length co39)) (ds := []) #[false, false, false, false, false, false, false, false, false, false, false, false, false, false, false, false, false, false] (by kernel_rfl) rfl rfl ⟨(blk_cell BK283.out 0).trans rfl, (blk_cell BK283.out 1).trans rfl⟩ (fun hHeld => ?_); refine with_tabW drovewayref05_tree.tab4 drovewayref05_tree.bits4 (fun HT_ HW_ => ?_)
        generalize w40.drew = w41 at HO280 BK276 BK283 HB hHeld ⊢
        refine pure_ (i := 1) (N := some 24) (v := ?_) (a' := ?_) #[false, true, false, false, false, false, false, false, false, false, false, false, false, false, false, false, false, false] rfl rfl (any_of HT_.out (by kernel_rfl)) (fun _ _ _ h => h) (Or.inl ⟨by rfl, ?_⟩) ?_ ?_
        rotate_left
        · intro w'
          go_simp
          with_reducible rfl
        rotate_left
        · simp only [Act.put, List.setIfInBounds_toArray, List.set_cons_zero, List.set_cons_succ, i64_w, i32_w]
          rfl
        refine pure_ (i := 2) (N := some 25) (v := ?_) (a' := ?_) #[false, true, true, false, false, false, false, false, false, false, false, false, false, false, false, false, false, false] rfl rfl (any_of HT_.out (by kernel_rfl)) (fun _ _ _ h => h) (Or.inl ⟨by rfl, ?_⟩) ?_ ?_
        rotate_left
        · intro w'
          go_simp
          with_reducible rfl
        rotate_left
        · simp only [Act.put, List.setIfInBounds_toArray, List.set_cons_zero, List.set_cons_succ, i64_w, i32_w]
          rfl
        refine pure_ (i := 3) (N := some 26) (v := undef) (a' := ?_) #[false, true, true, true, false, false, false, false, false, false, false, false, false, false, false, false, false, false] rfl rfl (any_of HT_.out (by kernel_rfl)) (fun _ _ _ h => h) (Or.inr ⟨by rfl, rfl⟩) ?_ ?_
        rotate_left
        · simp only [Act.put, List.setIfInBounds_toArray, List.set_cons_zero, List.set_cons_succ, i64_w, i32_w]
          rfl
        refine pure_ (i := 4) (N := some 27) (v := undef) (a' := ?_) #[false, true, true, true, true, false, false, false, false, false, false, false, false, false, false, false, false, false] rfl rfl (any_of HT_.out (by kernel_rfl)) (fun _ _ _ h => h) (Or.inr ⟨by rfl, rfl⟩) ?_ ?_
        rotate_left
        · simp only [Act.put, List.setIfInBounds_toArray, List.set_cons_zero, List.set_cons_succ, i64_w, i32_w]
          rfl
        refine pure_ (i := 5) (N := some 28) (v := undef) (a' := ?_) #[false, true, true, true, true, true, false, false, false, false, false, false, false, false, false, false, false, false] rfl rfl (any_of HT_.out (by kernel_rfl)) (fun _ _ _ h => h) (Or.inr ⟨by rfl, rfl⟩) ?_ ?_
        rotate_left
        · simp only [Act.put, List.setIfInBounds_toArray, List.set_cons_zero, List.set_cons_succ, i64_w, i32_w]
          rfl
        refine pure_ (i := 6) (N := some 29) (v := undef) (a' := ?_) #[false, true, true, true, true, true, true, false, false, false, false, false, false, false, false, false, false, false] rfl rfl (any_of HT_.out (by kernel_rfl)) (fun _ _ _ h => h) (Or.inr ⟨by rfl, rfl⟩) ?_ ?_
        rotate_left
        · simp only [Act.put, List.setIfInBounds_toArray, List.set_cons_zero, List.set_cons_succ, i64_w, i32_w]
          rfl
        refine pure_ (i := 7) (N := some 30) (v := ?_) (a' := ?_) #[false, true, true, true, true, true, true, true, false, false, false, false, false, false, false, false, false, false] rfl rfl (any_of HT_.out (by kernel_rfl)) (fun _ _ _ h => h) (Or.inl ⟨by rfl, ?_⟩) ?_ ?_
        rotate_left
        · intro w'
          go_simp
          with_reducible rfl
        rotate_left
        · simp only [Act.put, List.setIfInBounds_toArray, List.set_cons_zero, List.set_cons_succ, i64_w, i32_w]
          rfl
        refine pure_ (i := 8) (N := some 31) (v := ?_) (a' := ?_) #[false, true, true, true, true, true, true, true, true, false, false, false, false, false, false, false, false, false] rfl rfl (any_of HT_.out (by kernel_rfl)) (fun _ _ _ h => h) (Or.inl ⟨by rfl, ?_⟩) ?_ ?_
        rotate_left
        · intro w'
          go_simp
          with_reducible rfl
        rotate_left
        · simp only [Act.put, List.setIfInBounds_toArray, List.set_cons_zero, List.set_cons_succ, i64_w, i32_w]
          rfl
        refine pure_ (i := 9) (N := some 32) (v := undef) (a' := ?_) #[false, true, true, true, true, true, true, true, true, true, false, false, false, false, false, false, false, false] rfl rfl (any_of HT_.out (by kernel_rfl)) (fun _ _ _ h => h) (Or.inr ⟨by rfl, rfl⟩) ?_ ?_
        rotate_left
        · simp only [Act.put, List.setIfInBounds_toArray, List.set_cons_zero, List.set_cons_succ, i64_w, i32_w]
          rfl
        refine pure_ (i := 10) (N := some 33) (v := undef) (a' := ?_) #[false, true, true, true, true, true, true, true, true, true, true, false, false, false, false, false, false, false] rfl rfl (any_of HT_.out (by kernel_rfl)) (fun _ _ _ h => h) (Or.inr ⟨by rfl, rfl⟩) ?_ ?_
        rotate_left
        · simp only [Act.put, List.setIfInBounds_toArray, List.set_cons_zero, List.set_cons_succ, i64_w, i32_w]
          rfl
        refine pure_ (i := 11) (N := some 34) (v := undef) (a' := ?_) #[false, true, true, true, true, true, true, true, true, true, true, true, false, false, false, false, false, false] rfl rfl (any_of HT_.out (by kernel_rfl)) (fun _ _ _ h => h) (Or.inr ⟨by rfl, rfl⟩) ?_ ?_
        rotate_left
        · simp only [Act.put, List.setIfInBounds_toArray, List.set_cons_zero, List.set_cons_succ, i64_w, i32_w]
          rfl
        refine pure_ (i := 12) (N := some 35) (v := undef) (a' := ?_) #[false, true, true, true, true, true, true, true, true, true, true, true, true, false, false, false, false, false] rfl rfl (any_of HT_.out (by kernel_rfl)) (fun _ _ _ h => h) (Or.inr ⟨by rfl, rfl⟩) ?_ ?_
        rotate_left
        · simp only [Act.put, List.setIfInBounds_toArray, List.set_cons_zero, List.set_cons_succ, i64_w, i32_w]
          rfl
        refine pure_ (i := 13) (N := some 36) (v := undef) (a' := ?_) #[false, true, true, true, true, true, true, true, true, true, true, true, true, true, false, false, false, false] rfl rfl (any_of HT_.out (by kernel_rfl)) (fun _ _ _ h => h) (Or.inr ⟨by rfl, rfl⟩) ?_ ?_
        rotate_left
        · simp only [Act.put, List.setIfInBounds_toArray, List.set_cons_zero, List.set_cons_succ, i64_w, i32_w]
          rfl
        refine pure_ (i := 14) (N := some 37) (v := undef) (a' := ?_) #[false, true, true, true, true, true, true, true, true, true, true, true, true, true, true, false, false, false] rfl rfl (any_of HT_.out (by kernel_rfl)) (fun _ _ _ h => h) (Or.inr ⟨by rfl, rfl⟩) ?_ ?_
        rotate_left
        · simp only [Act.put, List.setIfInBounds_toArray, List.set_cons_zero, List.set_cons_succ, i64_w, i32_w]
          rfl
        refine pure_ (i := 15) (N := some 38) (v := ?_) (a' := ?_) #[false, true, true, true, true, true, true, true, true, true, true, true, true, true, true, true, false, false] rfl rfl (any_of HT_.out (by kernel_rfl)) (fun _ _ _ h => h) (Or.inl ⟨by rfl, ?_⟩) ?_ ?_
        rotate_left
        · intro w'
          go_simp
          with_reducible rfl
        rotate_left
        · simp only [Act.put, List.setIfInBounds_toArray, List.set_cons_zero, List.set_cons_succ, i64_w, i32_w]
          rfl
        refine take_ (i := 0) (N := some 23) (v := ?_) (a' := ?_) #[true, true, true, true, true, true, true, true, true, true, true, true, true, true, true, true, false, false] rfl rfl (take_ofW HT_.out HW_.out (by kernel_rfl)) (fun _ _ _ h => h) (Or.inl ⟨by rfl, ?_⟩) hHeld ?_ ?_
        rotate_left
        · rintro w' ⟨s0, s1⟩
          go_simp
          with_reducible rfl
        rotate_left
        · simp only [Act.put, List.setIfInBounds_toArray, List.set_cons_zero, List.set_cons_succ, i64_w, i32_w]
          rfl
        refine one_ (i := 16) (N := none) #[true, true, true, true, true, true, true, true, true, true, true, true, true, true, true, true, true, false] rfl rfl (one_of HT_.out (by kernel_rfl)) (by decide) (fun K hK => ?_)
        have hs42 : w41.cell? ⟨gb276, 0, none⟩ = some (.int .i64 0) := (blk_cell BK276.out 0).trans rfl
        have hfs42 := blk_frozen BK276.out 0
        have hns42_1 := NB283_276.out
        have hms42_1 := NB276_283.out
        have hs43 : w41.cell? ⟨gb276, 1, none⟩ = some (.slice none 0 0) := (blk_cell BK276.out 1).trans rfl
        have hfs43 := blk_frozen BK276.out 1
        have hns43_1 := NB283_276.out
        have hms43_1 := NB276_283.out
        refine skip_ (w1 := ?_) (by rfl) rfl ?_ ?_
        rotate_left
        · go_simp
          rfl
        refine hK.out _ _ ⟨((cell_far (p := ⟨gb276, _, none⟩) NB283_276.out _).trans (((cell_far (p := ⟨gb276, _, none⟩) NB283_276.out _).trans (hHeld.1)))), ((cell_far (p := ⟨gb276, _, none⟩) NB283_276.out _).trans (((cell_far (p := ⟨gb276, _, none⟩) NB283_276.out _).trans (hHeld.2))))⟩ (fun hHeld => ?_)
        clear hK K
        refine pure_ (i := 17) (N := some 5) (v := ?_) (a' := ?_) #[true, true, true, true, true, true, true, true, true, true, true, true, true, true, true, true, true, true] rfl rfl (any_of HT_.out (by kernel_rfl)) (fun _ _ _ h => h) (Or.inl ⟨by rfl, ?_⟩) ?_ ?_
        rotate_left
        · intro w'
          go_simp
          with_reducible rfl
        rotate_left
        · simp only [Act.put, List.setIfInBounds_toArray, List.set_cons_zero, List.set_cons_succ, i64_w, i32_w]
          rfl
        refine done_ (done_of HT_.out (by kernel_rfl)) ?_
        try go_wp2
        refine bodyPost_ret (results_ct rfl _ _ gb276 85 #[.int .i64 t277, .slice Ao39 t278.length co39] (0, 0) _ rfl (by (with_reducible repeat (first | refine blk_drewN ?_ _ | refine blk_drew ?_ | refine blk_alloc ?_ _)); refine blk_put (cs := #[.int .i64 t277, .slice none 0 0]) ?_ 1 _ rfl; (with_reducible repeat (first | refine blk_drewN ?_ _ | refine blk_drew ?_ | refine blk_alloc ?_ _)); refine blk_put (cs := #[.int .i64 0, .slice none 0 0]) ?_ 0 _ rfl; (with_reducible repeat (first | refine blk_drewN ?_ _ | refine blk_drew ?_ | refine blk_alloc ?_ _)); exact BK276.out) Tryd.underlying85 rfl (by kernel_rfl)) rfl ?_
        exact ⟨_, by first | rfl | (simp [errW_none, errW_some] <;> rfl) | (simp [*, errW_none, errW_some] <;> rfl), by (with_reducible repeat (first | apply Kd.R_alloc | apply Kd.R_drewN | apply Kd.R_drew)); exact Kd.R_mono (Kd.R_far (p := ⟨gb276, 1, none⟩) (Kd.R_far (p := ⟨gb276, 0, none⟩) (Kd.R_mono HO280.out (fun k_ hk => (⟨hk, hk.1⟩ : _ ∧ k_ ≠ gb276))) (fun _ hk => hk.2) (.int .i64 t277)) (fun _ hk => hk.2) (.slice Ao39 t278.length co39)) (fun _ hk => trivial), by repeat (first | (with_reducible first | exact HB.out | apply below_alloc | apply pw_below_drewN | apply below_drew1 | refine below_set ?_ GE276.out | refine below_set ?_ GE283.out) | exact HB.out)⟩

/-! ### drovewayref05_IsTree: function 33 -/
def drovewayref05_IsTree.f (k : Nat) (a0 : Int) (a1 : ByteArray) : Option (Bool) := (drovewayref05_tree.f k a0 a1).bind fun bt279 => (some bt279.2.2)
end
end Go.Proofs.YtdbbcngmnpejnaaDoor.B

/- The reference's asked, as the kit's print writes it. -/
namespace Go.Proofs.YtdbbcngmnpejnaaDoor.B
open Go.Proofs.YtdbbcngmnpejnaaDoor.A
open Go.RowKit Go.Proofs.YtdbbcngmnpejnaaDoorW.PrintWords Go.Proofs.YtdbbcngmnpejnaaDoorW.PrintLast Go.Proofs.YtdbbcngmnpejnaaDoorW.PrintMore
section
attribute [local go_sem] max2_int min2_int max_two min_two max_three min_three max_four min_four   -- for this text's walks alone
set_option linter.unusedVariables false
set_option linter.unusedSimpArgs false
/-! ### drovewayref05_asked: function 54 -/
def drovewayref05_asked.j0 : Nat → Int → ByteArray → Bool → Option (Int × (List (S85)) × Int)
  | 0, _, _, _ => none
  | k + 1, x0, x1, x13 => if x13 = true then (some (0, ([] : List (S85)), 2)) else ((drovewayref05_tree.f k x0 x1).bind fun bt285 => (if bt285.2.2 = true then (some (bt285.1, bt285.2.1, 0)) else (some (0, ([] : List (S85)), 5))))
def drovewayref05_asked.f (k : Nat) (a0 : Int) (a1 : ByteArray) : Option (Int × (List (S85)) × Int) := if a0 < 1 then (drovewayref05_asked.j0 k a0 a1 true) else (drovewayref05_asked.j0 k a0 a1 (decide (a0 > 8)))
set_option maxHeartbeats 8000000 in
set_option maxRecDepth 100000 in
theorem drovewayref05_asked.calls (k : Nat) (a0 : Int) (a1 : ByteArray) (r1 : Int) (r2 : List (S85)) (r3 : Int) (w : World) (h : drovewayref05_asked.f k a0 a1 = some (r1, r2, r3)) :
    Calls Tryd.prog 54 #[.int .i64 a0, .string a1] w fun e w' => ∃ v1_ : Value, e = .returned (.tuple #[.agg #[.int .i64 r1, v1_], .int .i64 r3]) ∧ Kd.R k85 85 w' w.heap.size (fun _ => True) v1_ r2 ∧ Below w.heap.size w w' := by
  have hu85 := Tryd.underlying85
  have HB := Aside0.mk (Below.refl w.heap.size w)
  have H : (if a0 < 1 then (drovewayref05_asked.j0 k a0 a1 true) else (drovewayref05_asked.j0 k a0 a1 (decide (a0 > 8)))) = some (r1, r2, r3) := h
  clear h
  have HC3 := Aside0.mk H
  clear H
  go_enter Tryd.func54, Tryd.ntmps54
  go_upto_region 1 with (first | ((with_reducible refine gate_dst (N := 4) rfl ?_); refine box_event ?hg (N := 4) ?hd (cs := #[.int .i64 0, .slice none 0 0]) (t := 85) ?hr ?_; (case hd => rfl); (case hg => rfl); (case hr => first | (go_simp; done) | (go_simp; rfl)); intro gb284 hg w4 hbox hb; have n0_ := Aside0.mk (below_step (by repeat (first | (with_reducible first | exact HB.out | apply below_alloc | apply pw_below_drewN | apply below_drew1) | exact HB.out)) hb); have n1_ := Aside0.mk (hbox); have n2_ := Aside0.mk ((by rw [hg]; exact (below_size (by repeat (first | (with_reducible first | exact HB.out | apply below_alloc | apply pw_below_drewN | apply below_drew1) | exact HB.out))) : w.heap.size ≤ gb284)); have n3_ := Aside0.mk ((by rw [hg]; exact (below_size (by repeat (first | (with_reducible first | exact HB.out | apply below_alloc | apply pw_below_drewN | apply below_drew1) | exact HB.out))) : w.heap.size ≤ gb284)); clear HB; have HB := n0_; have BK284 := n1_; have GW284 := n2_; have GE284 := n3_; clear n0_ n1_ n2_ n3_; clear hb hbox hg))
  (try simp only [Act.put, List.setIfInBounds_toArray, List.set_cons_zero, List.set_cons_succ])
  go_cut [13] (fun v13 wc => ∃ (kq : Nat) (x13_2 : Bool), v13 = .bool x13_2 ∧ Aside0 (drovewayref05_asked.j0 kq a0 a1 x13_2 = some (r1, r2, r3)) ∧ Aside0 (kq ≤ k) ∧ Aside0 (wc.heap[gb284]? = some (.cells #[.int .i64 0, (.slice none 0 0)] 85 (0, 0))) ∧ Aside0 (Below w.heap.size w wc))
  case first =>
    have H := HC3.out
    clear HC3
    by_cases c5 : a0 < 1
    · rw [if_pos c5] at H
      have c5b0 : decide (a0 < 1) = true := decide_eq_true c5
      clear c5
      (first | rw [c5b0] | (simp only [i64_w, i32_w]; rw [c5b0]) | skip)
      have H' := Aside0.mk H
      clear H
      go_wp2
      go_meet
      case rel => exact ⟨_, (true), (by first | rfl | (simp; done) | (simp [*]; done)), H', ⟨by first | omega | exact Nat.le_refl _⟩, ⟨by (with_reducible repeat (first | refine blk_drewN ?_ _ | refine blk_drew ?_ | refine blk_alloc ?_ _)); exact BK284.out⟩, ⟨by repeat (first | (with_reducible first | exact HB.out | apply below_alloc | apply pw_below_drewN | apply below_drew1 | refine below_set ?_ GE284.out) | exact HB.out)⟩⟩
    · rw [if_neg c5] at H
      have c5b0 : decide (a0 < 1) = false := decide_eq_false c5
      clear c5
      (first | rw [c5b0] | (simp only [i64_w, i32_w]; rw [c5b0]) | skip)
      have H' := Aside0.mk H
      clear H
      go_wp2
      go_meet
      case rel => exact ⟨_, (decide (a0 > 8)), (by first | rfl | (simp; done) | (simp [*]; done)), H', ⟨by first | omega | exact Nat.le_refl _⟩, ⟨by (with_reducible repeat (first | refine blk_drewN ?_ _ | refine blk_drew ?_ | refine blk_alloc ?_ _)); exact BK284.out⟩, ⟨by repeat (first | (with_reducible first | exact HB.out | apply below_alloc | apply pw_below_drewN | apply below_drew1 | refine below_set ?_ GE284.out) | exact HB.out)⟩⟩
  case rest =>
    clear HC3
    try clear p2
    try clear c5
    try clear c5b0
    obtain ⟨kq, x13_2, rfl, HA, HJ2, BK284, HB⟩ := hcut
    cases kq with
    | zero => exact absurd HA.out (by simp [drovewayref05_asked.j0])
    | succ kj2 =>
      have H := HA.out
      clear HA
      simp only [drovewayref05_asked.j0] at H
      by_cases c6 : x13_2 = true
      · subst c6
        have H1 : (some (0, ([] : List (S85)), 2)) = some (r1, r2, r3) := by rw [if_pos rfl] at H; exact H
        clear H
        have H := H1
        clear H1
        simp only [Option.some.injEq, Prod.mk.injEq] at H
        obtain ⟨rfl, rfl, rfl⟩ := H
        have hcz7_0 : wc.cell? ⟨gb284, 0, none⟩ = some (.int .i64 0) := (blk_cell BK284.out 0).trans rfl
        have hcz7_1 : wc.cell? ⟨gb284, 1, none⟩ = some (.slice none 0 0) := (blk_cell BK284.out 1).trans rfl
        have hfz7_0 := blk_frozen BK284.out 0
        have hfz7_1 := blk_frozen BK284.out 1
        go_wp2
        refine bodyPost_ret (results_ct rfl _ _ gb284 85 #[.int .i64 0, .slice none 0 0] (0, 0) _ rfl (by (with_reducible repeat (first | refine blk_drewN ?_ _ | refine blk_drew ?_ | refine blk_alloc ?_ _)); refine blk_put (cs := #[.int .i64 0, .slice none 0 0]) ?_ 1 _ rfl; (with_reducible repeat (first | refine blk_drewN ?_ _ | refine blk_drew ?_ | refine blk_alloc ?_ _)); refine blk_put (cs := #[.int .i64 0, .slice none 0 0]) ?_ 0 _ rfl; (with_reducible repeat (first | refine blk_drewN ?_ _ | refine blk_drew ?_ | refine blk_alloc ?_ _)); exact BK284.out) Tryd.underlying85 rfl (by kernel_rfl)) rfl ?_
        exact ⟨_, by first | rfl | (simp [errW_none, errW_some] <;> rfl) | (simp [*, errW_none, errW_some] <;> rfl), by first | exact Kd.R_nil _ _ _ _ _ | exact Kd.N_nil _ _ _ _ _ | exact Kd.V_nil _ _ _ _ _ | exact Kd.Q_nil _ _ _ _ _ | exact Kd.S_nil _ _ _ _ _, by repeat (first | (with_reducible first | exact HB.out | apply below_alloc | apply pw_below_drewN | apply below_drew1 | refine below_set ?_ GE284.out) | exact HB.out)⟩
      · replace c6 := Bool.eq_false_iff.mpr c6
        subst c6
        have H1 : ((drovewayref05_tree.f kj2 a0 a1).bind fun bt285 => (if bt285.2.2 = true then (some (bt285.1, bt285.2.1, 0)) else (some (0, ([] : List (S85)), 5)))) = some (r1, r2, r3) := by rw [if_neg (show ¬ (false = true) by decide)] at H; exact H
        clear H
        have H := H1
        clear H1
        replace H := Option.bind_eq_some_iff.mp H
        obtain ⟨⟨t285, t286, t289⟩, A80, H⟩ := H
        replace H : (if t289 = true then (some (t285, t286, 0)) else (some (0, ([] : List (S85)), 5))) = some (r1, r2, r3) := H
        have A8 := Aside0.mk A80
        clear A80
        by_cases c9 : t289 = true
        · subst c9
          have H1 : (some (t285, t286, 0)) = some (r1, r2, r3) := by rw [if_pos rfl] at H; exact H
          clear H
          have H := H1
          clear H1
          simp only [Option.some.injEq, Prod.mk.injEq] at H
          obtain ⟨rfl, rfl, rfl⟩ := H
          go_wp2_with (first | ((with_reducible refine gate_callee (f := 62) rfl ?_); refine goesL_ (some 18) rfl rfl Tryd.func62 (by kernel_rfl) rfl #[.int .i64 a0, .string a1] rfl (by (try simp only [List.map_toArray, List.map_cons, List.map_nil]); first | done | rfl | (simp only [List.length_drop, List.length_take]; rfl)) ?_; (with_reducible refine (drovewayref05_tree.calls kj2 a0 a1 t285 t286 true _ A8.out).mono ?_); rintro e w10 ⟨v287, rfl, ho0, hb⟩; refine ⟨_, rfl, ?_⟩; have n0_ := Aside0.mk (Kd.R_lower (Kd.R_newB ho0 (g := gb284) (o := .cells #[.int .i64 0, .slice none 0 0] 85 (0, 0)) (by (with_reducible repeat (first | refine blk_drewN ?_ _ | refine blk_drew ?_ | refine blk_alloc ?_ _)); exact BK284.out)) (below_size (by repeat (first | (with_reducible first | exact HB.out | apply below_alloc | apply pw_below_drewN | apply below_drew1 | refine below_set ?_ GE284.out) | exact HB.out)))); have n1_ := Aside0.mk (blk_below (g := gb284) (o := .cells #[.int .i64 0, .slice none 0 0] 85 (0, 0)) (by (with_reducible repeat (first | refine blk_drewN ?_ _ | refine blk_drew ?_ | refine blk_alloc ?_ _)); exact BK284.out) hb); have n2_ := Aside0.mk (below_step (by repeat (first | (with_reducible first | exact HB.out | apply below_alloc | apply pw_below_drewN | apply below_drew1 | refine below_set ?_ GE284.out) | exact HB.out)) hb); clear BK284; clear HB; have HO288 := n0_; have BK284 := n1_; have HB := n2_; clear n0_ n1_ n2_; (try clear hb); (try clear hb2); (try clear hk); (try clear hi); (try clear ho0)) | ((with_reducible refine gate_dst (N := 6) rfl ?_); refine box_event ?hg (N := 6) ?hd (cs := #[.int .i64 0, .slice none 0 0]) (t := 85) ?hr ?_; (case hd => rfl); (case hg => rfl); (case hr => first | (go_simp; done) | (go_simp; rfl)); intro gb290 hg w11 hbox hb; have n0_ := Aside0.mk (Kd.R_below (Kd.R_elderB (by (with_reducible repeat (first | apply Kd.R_alloc | apply Kd.R_drewN | apply Kd.R_drew)); exact HO288.out) gb290 (Nat.le_of_eq hg.symm)) hb); have n1_ := Aside0.mk (blk_below (g := gb284) (o := .cells #[.int .i64 0, .slice none 0 0] 85 (0, 0)) (by (with_reducible repeat (first | refine blk_drewN ?_ _ | refine blk_drew ?_ | refine blk_alloc ?_ _)); exact BK284.out) hb); have n2_ := Aside0.mk (below_step (by repeat (first | (with_reducible first | exact HB.out | apply below_alloc | apply pw_below_drewN | apply below_drew1 | refine below_set ?_ GE284.out) | exact HB.out)) hb); have n3_ := Aside0.mk (hbox); have n4_ := Aside0.mk ((by rw [hg]; exact (below_size (by repeat (first | (with_reducible first | exact HB.out | apply below_alloc | apply pw_below_drewN | apply below_drew1 | refine below_set ?_ GE284.out) | exact HB.out))) : w.heap.size ≤ gb290)); have n5_ := Aside0.mk ((by rw [hg]; exact (below_size (by repeat (first | (with_reducible first | exact HB.out | apply below_alloc | apply pw_below_drewN | apply below_drew1 | refine below_set ?_ GE284.out) | exact HB.out))) : w.heap.size ≤ gb290)); have n6_ := Aside0.mk ((by rw [hg]; exact Nat.ne_of_lt (blk_lt (g := gb284) (o := .cells #[.int .i64 0, .slice none 0 0] 85 (0, 0)) (by (with_reducible repeat (first | refine blk_drewN ?_ _ | refine blk_drew ?_ | refine blk_alloc ?_ _)); exact BK284.out)) : gb284 ≠ gb290)); have n7_ := Aside0.mk ((by rw [hg]; exact Nat.ne_of_gt (blk_lt (g := gb284) (o := .cells #[.int .i64 0, .slice none 0 0] 85 (0, 0)) (by (with_reducible repeat (first | refine blk_drewN ?_ _ | refine blk_drew ?_ | refine blk_alloc ?_ _)); exact BK284.out)) : gb290 ≠ gb284)); clear HO288; clear BK284; clear HB; have HO288 := n0_; have BK284 := n1_; have HB := n2_; have BK290 := n3_; have GW290 := n4_; have GE290 := n5_; have NB284_290 := n6_; have NB290_284 := n7_; clear n0_ n1_ n2_ n3_ n4_ n5_ n6_ n7_; clear hb hbox hg; have hnb12 := NB290_284.out; have hnc12 := NB284_290.out; have hcz13_0 : w11.cell? ⟨gb290, 0, none⟩ = some (.int .i64 0) := (blk_cell BK290.out 0).trans rfl; have hcz13_1 : w11.cell? ⟨gb290, 1, none⟩ = some (.slice none 0 0) := (blk_cell BK290.out 1).trans rfl; have hfz13_0 := blk_frozen BK290.out 0; have hfz13_1 := blk_frozen BK290.out 1; obtain ⟨Ao14, co14, eo14⟩ := Kd.R_slice HO288.out; subst eo14; have hcz15_0 : w11.cell? ⟨gb284, 0, none⟩ = some (.int .i64 0) := (blk_cell BK284.out 0).trans rfl; have hcz15_1 : w11.cell? ⟨gb284, 1, none⟩ = some (.slice none 0 0) := (blk_cell BK284.out 1).trans rfl; have hfz15_0 := blk_frozen BK284.out 0; have hfz15_1 := blk_frozen BK284.out 1))
          refine bodyPost_ret (results_ct rfl _ _ gb284 85 #[.int .i64 t285, .slice Ao14 t286.length co14] (0, 0) _ rfl (by (with_reducible repeat (first | refine blk_drewN ?_ _ | refine blk_drew ?_ | refine blk_alloc ?_ _)); refine blk_put (cs := #[.int .i64 t285, .slice none 0 0]) ?_ 1 _ rfl; (with_reducible repeat (first | refine blk_drewN ?_ _ | refine blk_drew ?_ | refine blk_alloc ?_ _)); refine blk_put (cs := #[.int .i64 0, .slice none 0 0]) ?_ 0 _ rfl; (with_reducible repeat (first | refine blk_drewN ?_ _ | refine blk_drew ?_ | refine blk_alloc ?_ _)); refine blk_far ?_ NB284_290.out _; (with_reducible repeat (first | refine blk_drewN ?_ _ | refine blk_drew ?_ | refine blk_alloc ?_ _)); refine blk_far ?_ NB284_290.out _; (with_reducible repeat (first | refine blk_drewN ?_ _ | refine blk_drew ?_ | refine blk_alloc ?_ _)); exact BK284.out) Tryd.underlying85 rfl (by kernel_rfl)) rfl ?_
          exact ⟨_, by first | rfl | (simp [errW_none, errW_some] <;> rfl) | (simp [*, errW_none, errW_some] <;> rfl), by (with_reducible repeat (first | apply Kd.R_alloc | apply Kd.R_drewN | apply Kd.R_drew)); exact Kd.R_mono (Kd.R_far (p := ⟨gb284, 1, none⟩) (Kd.R_far (p := ⟨gb284, 0, none⟩) (Kd.R_far (p := ⟨gb290, 1, none⟩) (Kd.R_far (p := ⟨gb290, 0, none⟩) (Kd.R_mono (Kd.R_mono HO288.out (fun k_ hk => (⟨hk, hk.2⟩ : _ ∧ k_ ≠ gb290))) (fun k_ hk => (⟨hk, hk.1.1.2⟩ : _ ∧ k_ ≠ gb284))) (fun _ hk => hk.1.2) (.int .i64 t285)) (fun _ hk => hk.1.2) (.slice Ao14 t286.length co14)) (fun _ hk => hk.2) (.int .i64 t285)) (fun _ hk => hk.2) (.slice Ao14 t286.length co14)) (fun _ hk => trivial), by repeat (first | (with_reducible first | exact HB.out | apply below_alloc | apply pw_below_drewN | apply below_drew1 | refine below_set ?_ GE284.out | refine below_set ?_ GE290.out) | exact HB.out)⟩
        · replace c9 := Bool.eq_false_iff.mpr c9
          subst c9
          have H1 : (some (0, ([] : List (S85)), 5)) = some (r1, r2, r3) := by rw [if_neg (show ¬ (false = true) by decide)] at H; exact H
          clear H
          have H := H1
          clear H1
          simp only [Option.some.injEq, Prod.mk.injEq] at H
          obtain ⟨rfl, rfl, rfl⟩ := H
          go_wp2_with (first | ((with_reducible refine gate_callee (f := 62) rfl ?_); refine goesL_ (some 18) rfl rfl Tryd.func62 (by kernel_rfl) rfl #[.int .i64 a0, .string a1] rfl (by (try simp only [List.map_toArray, List.map_cons, List.map_nil]); first | done | rfl | (simp only [List.length_drop, List.length_take]; rfl)) ?_; (with_reducible refine (drovewayref05_tree.calls kj2 a0 a1 t285 t286 false _ A8.out).mono ?_); rintro e w16 ⟨v287, rfl, ho0, hb⟩; refine ⟨_, rfl, ?_⟩; have n0_ := Aside0.mk (Kd.R_lower (Kd.R_newB ho0 (g := gb284) (o := .cells #[.int .i64 0, .slice none 0 0] 85 (0, 0)) (by (with_reducible repeat (first | refine blk_drewN ?_ _ | refine blk_drew ?_ | refine blk_alloc ?_ _)); exact BK284.out)) (below_size (by repeat (first | (with_reducible first | exact HB.out | apply below_alloc | apply pw_below_drewN | apply below_drew1 | refine below_set ?_ GE284.out) | exact HB.out)))); have n1_ := Aside0.mk (blk_below (g := gb284) (o := .cells #[.int .i64 0, .slice none 0 0] 85 (0, 0)) (by (with_reducible repeat (first | refine blk_drewN ?_ _ | refine blk_drew ?_ | refine blk_alloc ?_ _)); exact BK284.out) hb); have n2_ := Aside0.mk (below_step (by repeat (first | (with_reducible first | exact HB.out | apply below_alloc | apply pw_below_drewN | apply below_drew1 | refine below_set ?_ GE284.out) | exact HB.out)) hb); clear BK284; clear HB; have HO288 := n0_; have BK284 := n1_; have HB := n2_; clear n0_ n1_ n2_; (try clear hb); (try clear hb2); (try clear hk); (try clear hi); (try clear ho0)) | ((with_reducible refine gate_dst (N := 6) rfl ?_); refine box_event ?hg (N := 6) ?hd (cs := #[.int .i64 0, .slice none 0 0]) (t := 85) ?hr ?_; (case hd => rfl); (case hg => rfl); (case hr => first | (go_simp; done) | (go_simp; rfl)); intro gb290 hg w17 hbox hb; have n0_ := Aside0.mk (Kd.R_below (Kd.R_elderB (by (with_reducible repeat (first | apply Kd.R_alloc | apply Kd.R_drewN | apply Kd.R_drew)); exact HO288.out) gb290 (Nat.le_of_eq hg.symm)) hb); have n1_ := Aside0.mk (blk_below (g := gb284) (o := .cells #[.int .i64 0, .slice none 0 0] 85 (0, 0)) (by (with_reducible repeat (first | refine blk_drewN ?_ _ | refine blk_drew ?_ | refine blk_alloc ?_ _)); exact BK284.out) hb); have n2_ := Aside0.mk (below_step (by repeat (first | (with_reducible first | exact HB.out | apply below_alloc | apply pw_below_drewN | apply below_drew1 | refine below_set ?_ GE284.out) | exact HB.out)) hb); have n3_ := Aside0.mk (hbox); have n4_ := Aside0.mk ((by rw [hg]; exact (below_size (by repeat (first | (with_reducible first | exact HB.out | apply below_alloc | apply pw_below_drewN | apply below_drew1 | refine below_set ?_ GE284.out) | exact HB.out))) : w.heap.size ≤ gb290)); have n5_ := Aside0.mk ((by rw [hg]; exact (below_size (by repeat (first | (with_reducible first | exact HB.out | apply below_alloc | apply pw_below_drewN | apply below_drew1 | refine below_set ?_ GE284.out) | exact HB.out))) : w.heap.size ≤ gb290)); have n6_ := Aside0.mk ((by rw [hg]; exact Nat.ne_of_lt (blk_lt (g := gb284) (o := .cells #[.int .i64 0, .slice none 0 0] 85 (0, 0)) (by (with_reducible repeat (first | refine blk_drewN ?_ _ | refine blk_drew ?_ | refine blk_alloc ?_ _)); exact BK284.out)) : gb284 ≠ gb290)); have n7_ := Aside0.mk ((by rw [hg]; exact Nat.ne_of_gt (blk_lt (g := gb284) (o := .cells #[.int .i64 0, .slice none 0 0] 85 (0, 0)) (by (with_reducible repeat (first | refine blk_drewN ?_ _ | refine blk_drew ?_ | refine blk_alloc ?_ _)); exact BK284.out)) : gb290 ≠ gb284)); clear HO288; clear BK284; clear HB; have HO288 := n0_; have BK284 := n1_; have HB := n2_; have BK290 := n3_; have GW290 := n4_; have GE290 := n5_; have NB284_290 := n6_; have NB290_284 := n7_; clear n0_ n1_ n2_ n3_ n4_ n5_ n6_ n7_; clear hb hbox hg; have hnb18 := NB290_284.out; have hnc18 := NB284_290.out; have hcz19_0 : w17.cell? ⟨gb290, 0, none⟩ = some (.int .i64 0) := (blk_cell BK290.out 0).trans rfl; have hcz19_1 : w17.cell? ⟨gb290, 1, none⟩ = some (.slice none 0 0) := (blk_cell BK290.out 1).trans rfl; have hfz19_0 := blk_frozen BK290.out 0; have hfz19_1 := blk_frozen BK290.out 1; obtain ⟨Ao20, co20, eo20⟩ := Kd.R_slice HO288.out; subst eo20; have hcz21_0 : w17.cell? ⟨gb284, 0, none⟩ = some (.int .i64 0) := (blk_cell BK284.out 0).trans rfl; have hcz21_1 : w17.cell? ⟨gb284, 1, none⟩ = some (.slice none 0 0) := (blk_cell BK284.out 1).trans rfl; have hfz21_0 := blk_frozen BK284.out 0; have hfz21_1 := blk_frozen BK284.out 1))
          refine bodyPost_ret (results_ct rfl _ _ gb284 85 #[.int .i64 0, .slice none 0 0] (0, 0) _ rfl (by (with_reducible repeat (first | refine blk_drewN ?_ _ | refine blk_drew ?_ | refine blk_alloc ?_ _)); refine blk_put (cs := #[.int .i64 0, .slice none 0 0]) ?_ 1 _ rfl; (with_reducible repeat (first | refine blk_drewN ?_ _ | refine blk_drew ?_ | refine blk_alloc ?_ _)); refine blk_put (cs := #[.int .i64 0, .slice none 0 0]) ?_ 0 _ rfl; (with_reducible repeat (first | refine blk_drewN ?_ _ | refine blk_drew ?_ | refine blk_alloc ?_ _)); refine blk_far ?_ NB284_290.out _; (with_reducible repeat (first | refine blk_drewN ?_ _ | refine blk_drew ?_ | refine blk_alloc ?_ _)); refine blk_far ?_ NB284_290.out _; (with_reducible repeat (first | refine blk_drewN ?_ _ | refine blk_drew ?_ | refine blk_alloc ?_ _)); exact BK284.out) Tryd.underlying85 rfl (by kernel_rfl)) rfl ?_
          exact ⟨_, by first | rfl | (simp [errW_none, errW_some] <;> rfl) | (simp [*, errW_none, errW_some] <;> rfl), by first | exact Kd.R_nil _ _ _ _ _ | exact Kd.N_nil _ _ _ _ _ | exact Kd.V_nil _ _ _ _ _ | exact Kd.Q_nil _ _ _ _ _ | exact Kd.S_nil _ _ _ _ _, by repeat (first | (with_reducible first | exact HB.out | apply below_alloc | apply pw_below_drewN | apply below_drew1 | refine below_set ?_ GE284.out | refine below_set ?_ GE290.out) | exact HB.out)⟩

end
end Go.Proofs.YtdbbcngmnpejnaaDoor.B

/- The reference's IsTriple, List and given, as the kit's print writes them. -/
namespace Go.Proofs.YtdbbcngmnpejnaaDoor.B
open Go.Proofs.YtdbbcngmnpejnaaDoor.A
open Go.RowKit Go.Proofs.YtdbbcngmnpejnaaDoorW.PrintWords Go.Proofs.YtdbbcngmnpejnaaDoorW.PrintLast Go.Proofs.YtdbbcngmnpejnaaDoorW.PrintMore
section
attribute [local go_sem] max2_int min2_int max_two min_two max_three min_three max_four min_four   -- for this text's walks alone
set_option linter.unusedVariables false
set_option linter.unusedSimpArgs false
/-! ### drovewayref05_IsTriple: function 31 -/
def drovewayref05_IsTriple.f (a0 : Int) (a1_0 : Int) (a1_1 : Int) (a1_2 : Int) : Option (Bool) := if a1_0 ≥ 0 then (if a1_0 < a1_1 then (if a1_1 < a0 then (if a1_2 ≥ 0 then (if a1_2 < a0 then (if a1_2 = a1_0 then (some false) else (some (a1_2 != a1_1))) else (some false)) else (some false)) else (some false)) else (some false)) else (some false)
/-! ### drovewayref05_List: function 30 -/
def drovewayref05_List.l0 : Nat → Int → List (S44) → Int → Option (Int)
  | 0, _, _, _ => none
  | k + 1, x0, x1, x5 => if x5 < (x1.length : Int) then (if 0 ≤ x5 then ((drovewayref05_IsTriple.f x0 ((rd_T44 x1 x5).f0) ((rd_T44 x1 x5).f1) ((rd_T44 x1 x5).f2)).bind fun t260 => (if t260 = true then (drovewayref05_List.l0 k x0 x1 (wrap64 (x5 + 1))) else (some 2))) else (none)) else (some 0)
def drovewayref05_List.f (k : Nat) (a0 : Int) (l1 : List (S44)) : Option (Int) := if (l1.length : Int) > 60 then (some 3) else (drovewayref05_List.l0 k a0 l1 0)
/-! ### drovewayref05_given: function 45 -/
def drovewayref05_given.f (k : Nat) (a0 : Int) (l1 : List (S44)) : Option (Int) := if a0 < 1 then (some 2) else (if a0 > 8 then (some 2) else ((drovewayref05_List.f k a0 l1).bind fun t256 => (some t256)))
end
end Go.Proofs.YtdbbcngmnpejnaaDoor.B

/- The reference's family, shows and Shows, as the kit's print writes them. -/
namespace Go.Proofs.YtdbbcngmnpejnaaDoor.B
open Go.Proofs.YtdbbcngmnpejnaaDoor.A
open Go.RowKit Go.Proofs.YtdbbcngmnpejnaaDoorW.PrintWords Go.Proofs.YtdbbcngmnpejnaaDoorW.PrintLast Go.Proofs.YtdbbcngmnpejnaaDoorW.PrintMore
section
attribute [local go_sem] max2_int min2_int max_two min_two max_three min_three max_four min_four   -- for this text's walks alone
set_option linter.unusedVariables false
set_option linter.unusedSimpArgs false
/-! ### drovewayref05_family: function 76 -/
mutual
def drovewayref05_family.l0 : Nat → Int → Int → Int → List (S85) → Option (Int)
  | 0, _, _, _, _ => none
  | k + 1, x1, x5, x292000, x292001 => if x5 < (x292001.length : Int) then (if 0 ≤ x5 then (if (Go.bits .andNot .i64 x1 ((rd_T85 x292001 x5).f0)) = 0 then ((drovewayref05_family.f k ((rd_T85 x292001 x5).f0) ((rd_T85 x292001 x5).f1) x1).bind fun t294 => (some t294)) else (drovewayref05_family.l0 k x1 (wrap64 (x5 + 1)) x292000 x292001)) else (none)) else (some x292000)
def drovewayref05_family.f : Nat → Int → List (S85) → Int → Option (Int)
  | 0, _, _, _ => none
  | k + 1, a0_0, l0_1, a1 => drovewayref05_family.l0 k a1 0 a0_0 l0_1
end
/-! ### drovewayref05_shows: function 60 -/
def drovewayref05_shows.f (k : Nat) (a0_0 : Int) (l0_1 : List (S85)) (a1_0 : Int) (a1_1 : Int) (a1_2 : Int) : Option (Bool) := if 0 ≤ a1_0 then (if 0 ≤ a1_1 then ((drovewayref05_family.f k a0_0 l0_1 (Go.bits .or .i64 (shl .i64 1 a1_0) (shl .i64 1 a1_1))).bind fun t297 => (if 0 ≤ a1_2 then (some ((Int.tmod (shr .i64 t297 a1_2) 2) == 0)) else (none))) else (none)) else (none)
/-! ### drovewayref05_Shows: function 29 -/
mutual
def drovewayref05_Shows.j0 : Nat → List (S44) → Int → Int → List (S85) → Option (Bool × Int)
  | 0, _, _, _, _ => none
  | k + 1, x2, x9, x304000, x304001 => if x9 = 0 then (drovewayref05_Shows.l0 k x2 0 x304000 x304001) else (some (false, x9))
def drovewayref05_Shows.l0 : Nat → List (S44) → Int → Int → List (S85) → Option (Bool × Int)
  | 0, _, _, _, _ => none
  | k + 1, x2, x10, x304000, x304001 => if x10 < (x2.length : Int) then (if 0 ≤ x10 then ((drovewayref05_shows.f k x304000 x304001 ((rd_T44 x2 x10).f0) ((rd_T44 x2 x10).f1) ((rd_T44 x2 x10).f2)).bind fun t306 => (if t306 = true then (drovewayref05_Shows.l0 k x2 (wrap64 (x10 + 1)) x304000 x304001) else (some (false, 0)))) else (none)) else (some (true, 0))
end
def drovewayref05_Shows.f (k : Nat) (a0 : Int) (a1 : ByteArray) (l2 : List (S44)) : Option (Bool × Int) := (drovewayref05_asked.f k a0 a1).bind fun bt298 => (if bt298.2.2 = 0 then ((drovewayref05_List.f k a0 l2).bind fun t304 => (drovewayref05_Shows.j0 k l2 t304 bt298.1 bt298.2.1)) else (drovewayref05_Shows.j0 k l2 bt298.2.2 bt298.1 bt298.2.1))
end
end Go.Proofs.YtdbbcngmnpejnaaDoor.B

/- What is asked of a number of beasts and of triples, plain. -/
namespace Go.Proofs.YtdbbcngmnpejnaaDoor.B
open Go.Proofs.YtdbbcngmnpejnaaDoor.A
open Go.RowKit Go.Proofs.YtdbbcngmnpejnaaDoorW.PrintWords Go.Proofs.YtdbbcngmnpejnaaDoorW.PrintMore
def okTri (n : Int) (t : S44) : Bool := decide (0 ≤ t.f0) && decide (t.f0 < t.f1) && decide (t.f1 < n) && decide (0 ≤ t.f2) && decide (t.f2 < n) && decide (t.f2 ≠ t.f0) && decide (t.f2 ≠ t.f1)
def listE (n : Int) (l : List S44) : Int := if 60 < l.length then 3 else if l.all (okTri n) = true then 0 else 2
def askE (n : Int) (l : List S44) : Int := if 1 ≤ n ∧ n ≤ 8 then listE n l else 2
theorem rem_loop (n : Int) (l : List S44) (hl : l.length ≤ 60) : ∀ d i : Nat, i + d = l.length → breed_remembered.l0 (d + 1) n l (l.length : Int) (i : Int) = some (if (l.drop i).all (okTri n) = true then 0 else 2)
  | 0, i, h => by
    rw [breed_remembered.l0, if_neg (by omega), List.drop_of_length_le (by omega)]
    rfl
  | d + 1, i, h => by
    have hi : i < l.length := by omega
    have hw : wrap64 ((i : Int) + 1) = ((i + 1 : Nat) : Int) := by unfold wrap64; omega
    rw [breed_remembered.l0, if_pos (by omega), if_pos (by omega), if_pos (by omega), hw, rem_loop n l hl d (i + 1) (by omega)]
    have hrd : rd_T44 l (i : Int) = l[i] := by simp only [rd_T44, Int.toNat_natCast, List.getD_eq_getElem?_getD, List.getElem?_eq_getElem hi, Option.getD_some]
    rw [hrd, List.drop_eq_getElem_cons hi, List.all_cons]
    generalize l[i] = t
    unfold okTri
    by_cases h1 : t.f0 < 0
    · rw [if_pos h1, decide_eq_false (show ¬ 0 ≤ t.f0 by omega)]; rfl
    rw [if_neg h1, decide_eq_true (show 0 ≤ t.f0 by omega)]
    by_cases h2 : t.f0 ≥ t.f1
    · rw [if_pos h2, decide_eq_false (show ¬ t.f0 < t.f1 by omega)]; rfl
    rw [if_neg h2, decide_eq_true (show t.f0 < t.f1 by omega)]
    by_cases h3 : t.f1 ≥ n
    · rw [if_pos h3, decide_eq_false (show ¬ t.f1 < n by omega)]; rfl
    rw [if_neg h3, decide_eq_true (show t.f1 < n by omega)]
    by_cases h4 : t.f2 < 0
    · rw [if_pos h4, decide_eq_false (show ¬ 0 ≤ t.f2 by omega)]; rfl
    rw [if_neg h4, decide_eq_true (show 0 ≤ t.f2 by omega)]
    by_cases h5 : t.f2 ≥ n
    · rw [if_pos h5, decide_eq_false (show ¬ t.f2 < n by omega)]; rfl
    rw [if_neg h5, decide_eq_true (show t.f2 < n by omega)]
    by_cases h6 : t.f2 = t.f0
    · rw [if_pos h6, decide_eq_false (show ¬ t.f2 ≠ t.f0 from fun h => h h6)]; rfl
    rw [if_neg h6, decide_eq_true (show t.f2 ≠ t.f0 from h6)]
    by_cases h7 : t.f2 = t.f1
    · rw [if_pos h7, decide_eq_false (show ¬ t.f2 ≠ t.f1 from fun h => h h7)]; rfl
    rw [if_neg h7, decide_eq_true (show t.f2 ≠ t.f1 from h7)]
    simp
theorem rem_some (n : Int) (l : List S44) : ∃ k, breed_remembered.f k n l = some (listE n l) := by
  unfold breed_remembered.f listE
  by_cases h : 60 < l.length
  · exact ⟨0, by rw [if_pos (by omega), if_pos h]⟩
  · refine ⟨l.length + 1, ?_⟩
    rw [if_neg (by omega), if_neg h]
    have := rem_loop n l (by omega) l.length 0 (by omega)
    rw [List.drop_zero] at this
    exact this
theorem ask_some (n : Int) (l : List S44) : ∃ k, breed_asked.f k n l = some (askE n l) := by
  obtain ⟨k, hk⟩ := rem_some n l
  refine ⟨k, ?_⟩
  unfold breed_asked.f breed_herd.f askE
  by_cases h1 : n ≥ 1
  · rw [if_pos h1]
    by_cases h2 : n ≤ 8
    · rw [if_pos ⟨h1, h2⟩, decide_eq_true h2]
      simp [hk]
    · rw [if_neg (fun h => h2 h.2), decide_eq_false h2]
      simp
  · rw [if_neg h1, if_neg (fun h => h1 h.1)]
    simp
theorem asked_calls (n : Int) (A : Option Addr) (c : Nat) (l : List S44) (w : World) (hr : Kd.C k44 w A l.length l) (hc : l.length ≤ c) : Calls Tryd.prog 43 #[.int .i64 n, .slice A l.length c] w fun e w' => e = .returned (.int .i64 (askE n l)) ∧ Below w.heap.size w w' := by
  obtain ⟨k, hk⟩ := ask_some n l
  exact breed_asked.calls k n A c l _ w hr hc hk
theorem listE_zero {n : Int} {l : List S44} (h : listE n l = 0) : l.length ≤ 60 ∧ ∀ t ∈ l, okTri n t = true := by
  unfold listE at h
  split at h
  · cases h
  · rename_i h1
    split at h
    · rename_i h2; exact ⟨by omega, List.all_eq_true.mp h2⟩
    · cases h
theorem askE_zero {n : Int} {l : List S44} (h : askE n l = 0) : (1 ≤ n ∧ n ≤ 8) ∧ l.length ≤ 60 ∧ ∀ t ∈ l, okTri n t = true := by
  unfold askE at h
  split at h
  · rename_i h1; exact ⟨h1, listE_zero h⟩
  · cases h
theorem okTri_parts {n : Int} {t : S44} (h : okTri n t = true) : 0 ≤ t.f0 ∧ t.f0 < t.f1 ∧ t.f1 < n ∧ 0 ≤ t.f2 ∧ t.f2 < n ∧ t.f2 ≠ t.f0 ∧ t.f2 ≠ t.f1 := by
  unfold okTri at h
  simp only [Bool.and_eq_true, decide_eq_true_iff] at h
  obtain ⟨⟨⟨⟨⟨⟨h1, h2⟩, h3⟩, h4⟩, h5⟩, h6⟩, h7⟩ := h
  exact ⟨h1, h2, h3, h4, h5, h6, h7⟩
theorem okTri_8 {n : Int} {t : S44} (hn : n ≤ 8) (h : okTri n t = true) : Tri8 t := by
  have := okTri_parts h
  unfold Tri8
  omega
end Go.Proofs.YtdbbcngmnpejnaaDoor.B
