/- The library's contracts at this program's numbers (laid by the kit's lay-shelf and lay-plain). -/
import Derived.Test.YtaegldcifhgnmaaZFw2
import Derived.Shelf.Small.Bits
import Derived.Shelf.Strconv.Itoa0
import Derived.Shelf.Sort.Plain
import Derived.Ground.Names2Prog
import Derived.Shelf.Slices.Clone
import Derived.Shelf.Slices.SearchI
import Derived.Shelf.Slices.In.SortNone
import Derived.Ground.SlgnProg
import Derived.Shelf.SlicesE.Clone
import Derived.Test.YtaegldcifhgnmaaProg
import Derived.RowKit3
import Derived.Below
import Derived.Maps.Own
import Derived.Test.YtaegldcifhgnmaaWWords
import Derived.ChangeKeysEq
import Derived.Deep.Draws
import Derived.Deep.AppendLies
import Derived.Maps.AppendAt
import Derived.OwnWalk
import Derived.Laws.BytesArg
import Derived.Laws.MakeOwn
import Derived.Laws.OwnMore
import Derived.Deep.OwnRows
import Derived.Tactics
import Derived.Lib.ConvBytes
import Derived.Laws.Slices
import Derived.WalkKit
import Derived.KernelRfl
import Derived.Deep.LoopGhost
import Derived.Deep.QuietTactic
import Derived.BigQuiet
import Derived.WideLaws
import Derived.Deep.DeepCutAuto
import Derived.Deep.CutBlock
import Derived.Deep.RegionHeld3
import Derived.Laws.Rows
import Derived.Lib.AppendStr
import Derived.ArgAppend
import Derived.Laws.IdiomCopy
import Derived.OrdersHeld
import Derived.Laws.BitsLemmas
import Derived.RowKit
import Derived.Test.YtaegldcifhgnmaaWLast
import Derived.Test.YtaegldcifhgnmaaWTab
import Derived.Test.YtaegldcifhgnmaaWRepsOne
import Derived.Test.YtaegldcifhgnmaaWGuard
import Derived.Laws.CopyRow
import Derived.Laws.EntriesVeiled
import Derived.WalkSpells
import Derived.Lib.LazyBuf
import Derived.Maps.OwnSet
import Derived.Maps.RangeWalk
/- The library's contracts at this program's numbers (laid by the kit's lay-shelf and lay-plain). -/
namespace Go.Proofs
open Go.Shelf
def Try.lays189_ren : Go.Shelf.Ren := ⟨fun | 189 => 78 | 125 => 85 | 257 => 89 | 128 => 99 | 129 => 100 | 294 => 102 | 295 => 103 | 296 => 104 | 297 => 105 | 298 => 106 | 299 => 107 | 216 => 108 | 300 => 109 | 301 => 110 | 328 => 116 | 329 => 112 | 330 => 113 | 331 => 117 | 332 => 118 | 215 => 90 | 343 => 120 | n => n, fun | 28 => 28 | 3 => 3 | 46 => 99 | 0 => 0 | 51 => 111 | 53 => 113 | 4 => 4 | 183 => 105 | 182 => 104 | 131 => 73 | 5 => 5 | 9 => 9 | 218 => 121 | 222 => 125 | 228 => 129 | 229 => 130 | n => n, fun | n => n⟩
theorem Try.lays189 : Go.Proofs.Lays.n189 Try.prog Try.lays189_ren := {
  mixed := by kernel_rfl
  f125 := Try.func85.trans (congrArg some (by kernel_rfl))
  f128 := Try.func99.trans (congrArg some (by kernel_rfl))
  f129 := Try.func100.trans (congrArg some (by kernel_rfl))
  f189 := Try.func78.trans (congrArg some (by kernel_rfl))
  f215 := Try.func90.trans (congrArg some (by kernel_rfl))
  f216 := Try.func108.trans (congrArg some (by kernel_rfl))
  f257 := Try.func89.trans (congrArg some (by kernel_rfl))
  f294 := Try.func102.trans (congrArg some (by kernel_rfl))
  f295 := Try.func103.trans (congrArg some (by kernel_rfl))
  f296 := Try.func104.trans (congrArg some (by kernel_rfl))
  f297 := Try.func105.trans (congrArg some (by kernel_rfl))
  f298 := Try.func106.trans (congrArg some (by kernel_rfl))
  f299 := Try.func107.trans (congrArg some (by kernel_rfl))
  f300 := Try.func109.trans (congrArg some (by kernel_rfl))
  f301 := Try.func110.trans (congrArg some (by kernel_rfl))
  f328 := Try.func116.trans (congrArg some (by kernel_rfl))
  f329 := Try.func112.trans (congrArg some (by kernel_rfl))
  f330 := Try.func113.trans (congrArg some (by kernel_rfl))
  f331 := Try.func117.trans (congrArg some (by kernel_rfl))
  f332 := Try.func118.trans (congrArg some (by kernel_rfl))
  f343 := Try.func120.trans (congrArg some (by kernel_rfl))
  t0 := Try.underlying0
  a0 := Try.isAgg0
  z0 := Try.sizeOf0
  v0 := Try.zeroValue0
  t3 := Try.underlying3
  a3 := Try.isAgg3
  z3 := Try.sizeOf3
  v3 := Try.zeroValue3
  t4 := Try.underlying4
  a4 := Try.isAgg4
  z4 := Try.sizeOf4
  v4 := Try.zeroValue4
  t5 := Try.underlying5
  a5 := Try.isAgg5
  z5 := Try.sizeOf5
  v5 := Try.zeroValue5
  t9 := Try.underlying9
  a9 := Try.isAgg9
  z9 := Try.sizeOf9
  v9 := Try.zeroValue9
  t28 := Try.underlying28
  a28 := Try.isAgg28
  z28 := Try.sizeOf28
  v28 := Try.zeroValue28
  t46 := Try.underlying99
  a46 := Try.isAgg99
  z46 := Try.sizeOf99
  v46 := Try.zeroValue99
  t51 := Try.underlying111
  a51 := Try.isAgg111
  z51 := Try.sizeOf111
  v51 := Try.zeroValue111
  t53 := Try.underlying113
  a53 := Try.isAgg113
  z53 := Try.sizeOf113
  v53 := Try.zeroValue113
  t131 := Try.underlying73
  a131 := Try.isAgg73
  z131 := Try.sizeOf73
  v131 := Try.zeroValue73
  t182 := Try.underlying104
  a182 := Try.isAgg104
  z182 := Try.sizeOf104
  v182 := Try.zeroValue104
  t183 := Try.underlying105
  a183 := Try.isAgg105
  z183 := Try.sizeOf105
  v183 := Try.zeroValue105
  t218 := Try.underlying121
  a218 := Try.isAgg121
  z218 := Try.sizeOf121
  v218 := Try.zeroValue121
  t222 := Try.underlying125
  a222 := Try.isAgg125
  z222 := Try.sizeOf125
  v222 := Try.zeroValue125
  t228 := Try.underlying129
  a228 := Try.isAgg129
  z228 := Try.sizeOf129
  v228 := Try.zeroValue129
  t229 := Try.underlying130
  a229 := Try.isAgg130
  z229 := Try.sizeOf130
  v229 := Try.zeroValue130 }
open Go.Sort Go.RowKit in
theorem Try.slices_Sort_int (blk off cap : Nat) (zs : List Int) (w : World) (hH : Holds (Value.int .i64) w blk off zs.toArray) (hblk : blk < w.heap.size) (hsz : zs.length < 4611686018427387904) :
    Calls Try.prog 78 #[.slice (some ⟨blk, off, none⟩) zs.length cap] w fun e w' =>
      e = .returned (.tuple #[]) ∧ ∃ n os, w' = grow (putRow (Value.int .i64) (Sort.ahead w n) blk off (zs.mergeSort fun x y => decide (x ≤ y)).toArray) os := Any.slices_Sort_int Try.lays189 blk off cap zs w hH hblk hsz
def Try.laysNm215_ren : Go.Shelf.Ren := ⟨fun | 15 => 68 | n => n, fun | 22 => 28 | 3 => 3 | 4 => 4 | n => n, fun | n => n⟩
theorem Try.laysNm215 : Go.Proofs.Lays2.n15 Try.prog Try.laysNm215_ren := {
  mixed := by kernel_rfl
  f15 := Try.func68.trans (congrArg some (by kernel_rfl))
  t3 := Try.underlying3
  a3 := Try.isAgg3
  z3 := Try.sizeOf3
  v3 := Try.zeroValue3
  t4 := Try.underlying4
  a4 := Try.isAgg4
  z4 := Try.sizeOf4
  v4 := Try.zeroValue4
  t22 := Try.underlying28
  a22 := Try.isAgg28
  z22 := Try.sizeOf28
  v22 := Try.zeroValue28
  i3 := by kernel_rfl }
open Go.RowKit Go.Lib in
/-- slices.Clone at []int: "Clone returns a copy of the slice. The elements are copied using assignment, so this is a shallow clone. The result may have additional unused capacity. The result preserves the nilness of s.": OF A SLICE THAT IS NOT nil IT RETURNS A SLICE THAT IS NOT nil, OF THE SAME ELEMENTS, IN MEMORY OF THE CALL's OWN: in the how-to's words (6f): 'w'.ownsRow B e 1 v' n cells': v' begins at the head of a row among the blocks from B on (B: the heap's size at the call), not frozen, whose first cells are the elements · 'Below B w w'': below B all is as it was. The capacity is whatever the run-time gives. 'zs': what the cells behind the slice's address hold; 'zs.take n': its elements. (LAID: no walk: one application.) -/
theorem Try.slices_Clone_int (b off n c : Nat) (zs : List Int) (w : World) (hz : n ≤ zs.length) (hbig : n * 8 ≤ 140737488355328) (hc : ∀ j, j < zs.length → w.cell? ⟨b, off + j, none⟩ = some (.int .i64 (zs.getD j 0))) :
    Calls Try.prog 68 #[.slice (some ⟨b, off, none⟩) n c] w fun e w' => ∃ v', e = .returned v' ∧ w'.ownsRow w.heap.size 3 1 v' n ((zs.take n).map (Value.int .i64)) ∧ v' ≠ .slice none 0 0 ∧ Below w.heap.size w w' := Any.slices_Clone_int Try.laysNm215 b off n c zs w hz hbig hc
open Go.RowKit Go.Sort in
/-- .. and plain. (LAID: no walk: one application.) -/
theorem Try.slices_Sort_int_none (p : Option Addr) (cap : Nat) (w : World) :
    Calls Try.prog 78 #[.slice p 0 cap] w fun e w' => e = .returned (.tuple #[]) ∧ w' = w := Any.slices_Sort_int_none Try.lays189 p cap w
def Try.laysSlE041_f71_ren : Go.Shelf.Ren := ⟨fun | 41 => 71 | n => n, fun | 22 => 53 | 23 => 28 | 4 => 4 | n => n, fun | n => n⟩
theorem Try.laysSlE041_f71 : Go.Proofs.SlLaysE0.n41 Try.prog Try.laysSlE041_f71_ren := {
  mixed := by kernel_rfl
  f41 := ⟨Try.f71.name, by decide, Try.func71.trans (congrArg some (by kernel_rfl))⟩
  t4 := Try.underlying4
  a4 := Try.isAgg4
  z4 := Try.sizeOf4
  v4 := Try.zeroValue4
  t22 := Try.underlying53
  a22 := Try.isAgg53
  z22 := Try.sizeOf53
  v22 := Try.zeroValue53 }
open Go.RowKit Go.Lib in
/-- slices.Clone: "Clone returns a copy of the slice. The elements are copied using assignment, so this is a shallow clone. The result may have additional unused capacity. The result preserves the nilness of s.": OF A SLICE THAT IS NOT nil IT RETURNS A SLICE THAT IS NOT nil, OF THE SAME CELLS, IN MEMORY OF THE CALL's OWN ('ownsRow': the how-to's 6f); below the heap's size at the call all is as it was. (LAID AT THE INSTANCE 'slices.Clone[[][]int,[]int]': no walk: one application.) -/
theorem Try.slices_Clone_f71 (i0 : TypeInfo) (z : Value) (size bytes : Nat) (hi : Try.prog.info? 28 = some i0) (hz0 : i0.zero = some z) (hz1 : i0.size = size) (hz2 : i0.bytes = bytes) (hzs : z.cells.size = size) (hsz : 0 < size) (z23 : ∀ w, (Go.sizeOf 28).run Try.prog w = .ok size w) (b off n c : Nat) (news : List Value) (w : World) (hl : news.length = n * size) (hn : n ≤ maxLen) (hbig : n * bytes ≤ 140737488355328) (hc : ∀ j u, news[j]? = some u → w.cell? ⟨b, off + j, none⟩ = some u) (h1 : ∀ u ∈ news, u.oneCell' = true) :
    Calls Try.prog 71 #[.slice (some ⟨b, off, none⟩) n c] w fun e w' => ∃ v', e = .returned v' ∧ w'.ownsRow w.heap.size 28 size v' n news ∧ v' ≠ .slice none 0 0 ∧ Below w.heap.size w w' := AnyE.slices_Clone Try.laysSlE041_f71 i0 z size bytes hi hz0 hz1 hz2 hzs hsz z23 b off n c news w hl hn hbig hc h1
end Go.Proofs

/- A map that the call makes, whose keys are structs or arrays of whole numbers: what a look-up gives, and what a store leaves. -/
namespace Go.Proofs.Ytaegldcifhgnmaa.A
open Go.RowKit Go.Proofs.YtaegldcifhgnmaaW.PrintWords
variable {P : Program} {κ : Type} [DecidableEq κ]
/-- Keys of one type, as values. -/
structure KeyKind (P : Program) (K : TypeId) (enc : κ → Value) : Prop where
  eq : ∀ a b w, (Op.equal K (enc a) (enc b)).run P w = .ok (decide (a = b)) w
  ok : ∀ a e w, (Instr.checkKey e 10000 K (enc a)).run P w = .ok () w
  now : ∀ d, P.underlying K = some d → ∀ a b, Instr.sameNow d (enc a) (enc b) = none
  kind : ∃ d, P.underlying K = some d
  same : ∀ a, Instr.sameBits 10000 (enc a) (enc a) = true

/-- Where a key stands. -/
def idx (m : List (κ × Value)) (k : κ) : Option (Nat × Value) := (m.findIdx? (fun p => decide (p.1 = k))).map fun i => (i, ((m[i]?).map (·.2)).getD undef)

/-- A map reads as a list of keys and values. -/
def MapIs (enc : κ → Value) (w : World) (b : Nat) (m : List (κ × Value)) : Prop :=
  ∃ es clock, w.heap[b]? = some (.map es clock) ∧ es.toList.map (fun e => (e.key, e.val)) = m.map fun p => (enc p.1, p.2)

theorem findAsking_run {K : TypeId} {enc : κ → Value} (h : KeyKind P K enc) (k : κ) (w : World) : ∀ (es : List MapEntry) (m : List (κ × Value)) (i : Nat), es.map (fun e => (e.key, e.val)) = m.map (fun p => (enc p.1, p.2)) →
    (Instr.findAsking K (enc k) es i).run P w = .ok ((idx m k).map fun q => (q.1 + i, q.2)) w := by
  intro es
  induction es with
  | nil =>
    intro m i hm
    cases m with
    | nil => rfl
    | cons p m => simp at hm
  | cons e es ih =>
    intro m i hm
    cases m with
    | nil => simp at hm
    | cons p m =>
      simp only [List.map_cons, List.cons.injEq, Prod.mk.injEq] at hm
      obtain ⟨⟨h1, h2⟩, h3⟩ := hm
      rw [Instr.findAsking, h1]
      simp only [Sem.run_bind, h.eq, Result.andThen]
      by_cases hk : k = p.1
      · subst hk
        simp [idx, List.findIdx?_cons, h2]
      · have hk2 : ¬ p.1 = k := fun e => hk e.symm
        simp only [hk, decide_false, Bool.false_eq_true, if_false]
        rw [ih m (i + 1) h3]
        simp only [idx, List.findIdx?_cons, hk2, decide_false, Bool.false_eq_true, if_false]
        cases hq : m.findIdx? (fun q => decide (q.1 = k)) with
        | none => simp
        | some j => simp; omega

theorem findKey_run {K : TypeId} {enc : κ → Value} (h : KeyKind P K enc) (k : κ) (w : World) (es : List MapEntry) (m : List (κ × Value)) (hm : es.map (fun e => (e.key, e.val)) = m.map fun p => (enc p.1, p.2)) :
    (Instr.findKey K (enc k) es).run P w = .ok (idx m k) w := by
  obtain ⟨d, hd⟩ := h.kind
  have hask := findAsking_run h k w es m 0 hm
  rw [Instr.findKey]
  simp only [Sem.run_bind, run_underlying hd, Result.andThen]
  cases es with
  | nil =>
    cases m with
    | nil => rfl
    | cons p m => simp at hm
  | cons e es =>
    cases m with
    | nil => simp at hm
    | cons p m =>
      have h1 : e.key = enc p.1 := by simp at hm; exact hm.1.1
      have : Instr.findNow d (enc k) (e :: es) 0 = none := by rw [Instr.findNow, h1, h.now d hd]
      rw [this]
      simp only [hask]
      cases idx (p :: m) k <;> rfl

theorem lookup_run {K t E : TypeId} {enc : κ → Value} (h : KeyKind P K enc) (ht : P.underlying t = some (.map K E)) {z : Value} (hz : ∀ w, (zeroValue E).run P w = .ok z w) {w : World} {b : Nat} {m : List (κ × Value)} (hm : MapIs enc w b m) (k : κ) :
    (Instr.lookup t (.map (some b)) (enc k) false).run P w = .ok (((idx m k).map (·.2)).getD z) w := by
  obtain ⟨es, clock, hb, he⟩ := hm
  have h1 := findKey_run h k w es.toList m he
  have hget : (getObj b).run P w = .ok (.map es clock) w := by simp [getObj, Sem.run, hb]
  rw [Instr.lookup]
  simp only [Sem.run_bind, run_underlying ht, Result.andThen, hget, Sem.run_pure, h.ok, h1]
  cases idx m k with
  | none => simp [hz]
  | some q => simp

theorem idx_none {m : List (κ × Value)} {k : κ} (h : idx m k = none) : ∀ p ∈ m, p.1 ≠ k := by
  unfold idx at h
  rw [Option.map_eq_none_iff, List.findIdx?_eq_none_iff] at h
  intro p hp e
  have := h p hp
  simp [e] at this
theorem idx_some {m : List (κ × Value)} {k : κ} {q : Nat × Value} (h : idx m k = some q) : ∃ hq : q.1 < m.length, m[q.1].1 = k ∧ m[q.1].2 = q.2 := by
  unfold idx at h
  rw [Option.map_eq_some_iff] at h
  obtain ⟨i, hi, rfl⟩ := h
  rw [List.findIdx?_eq_some_iff_getElem] at hi
  obtain ⟨hlt, h1, _⟩ := hi
  exact ⟨hlt, by simpa using h1, by simp [List.getElem?_eq_getElem hlt]⟩

/-- A map behind a store. -/
def putM (m : List (κ × Value)) (k : κ) (v : Value) : List (κ × Value) :=
  match idx m k with
  | some q => m.set q.1 (k, v)
  | none => m ++ [(k, v)]

theorem mem_putM {m : List (κ × Value)} {k : κ} {v : Value} {p : κ × Value} (h : p ∈ putM m k v) : p = (k, v) ∨ p ∈ m := by
  unfold putM at h
  split at h
  · rcases List.mem_or_eq_of_mem_set h with h | h
    · exact .inr h
    · exact .inl h
  · rw [List.mem_append] at h
    rcases h with h | h
    · exact .inr h
    · exact .inl (by simpa using h)

/-- But for block b all that lay lies. -/
structure Keep (b : Nat) (w w' : World) : Prop where
  os : w'.os = w.os
  tape : w'.tape = w.tape
  output : w'.output = w.output
  size : w.heap.size ≤ w'.heap.size
  block : ∀ k, k < w.heap.size → k ≠ b → w'.heap[k]? = w.heap[k]?
theorem run_setMap {w : World} {b : Nat} {o : Obj} {es : Array MapEntry} {clock : Nat} (h : w.heap[b]? = some (.map es clock)) : ∃ w', (setObj b o).run P w = .ok () w' ∧ w'.heap[b]? = some o ∧ Keep b w w' := by
  refine ⟨{ w with heap := w.heap.setIfInBounds b o }, ?_, ?_, rfl, rfl, rfl, by simp, ?_⟩
  · simp [setObj, Sem.run, h]
  · have hlt : b < w.heap.size := (Array.getElem?_eq_some_iff.1 h).1
    simp [hlt]
  · intro k _ hk
    simp only []
    rw [Array.getElem?_setIfInBounds_ne (Ne.symm hk)]

theorem update_run {K t E : TypeId} {enc : κ → Value} (h : KeyKind P K enc) (ht : P.underlying t = some (.map K E)) {w : World} {b : Nat} {m : List (κ × Value)} (hm : MapIs enc w b m) (k : κ) (v : Value) :
    ∃ w', (Instr.mapUpdate t (.map (some b)) (enc k) v).run P w = .ok () w' ∧ MapIs enc w' b (putM m k v) ∧ Keep b w w' := by
  obtain ⟨es, clock, hb, he⟩ := hm
  have h1 := findKey_run h k w es.toList m he
  have hlt : b < w.heap.size := (Array.getElem?_eq_some_iff.1 hb).1
  have hget : (getObj b).run P w = .ok (.map es clock) w := by simp [getObj, Sem.run, hb]
  have hlen : es.size = m.length := by have := congrArg List.length he; simpa using this
  unfold putM
  cases hi : idx m k with
  | none =>
    obtain ⟨w', hr, hh, hk⟩ := run_setMap (P := P) (o := .map (es.push { key := enc k, val := v, born := clock }) (clock + 1)) hb
    refine ⟨w', ?_, ⟨_, _, hh, by simp [he]⟩, hk⟩
    rw [Instr.mapUpdate]
    simp only [Sem.run_bind, run_underlying ht, Result.andThen, hget, h.ok, h1, hi, hr]
  | some q =>
    obtain ⟨hq, hk1, hk2⟩ := idx_some hi
    have hqe : q.1 < es.size := by omega
    have hkey : (es[q.1]'hqe).key = enc k := by
      have := congrArg (fun l => l[q.1]?) he
      simp [hqe, hq] at this
      rw [this.1, hk1]
    obtain ⟨w', hr, hh, hk⟩ := run_setMap (P := P) (o := .map (es.modify q.1 fun e => { e with key := enc k, val := v }) clock) hb
    refine ⟨w', ?_, ⟨_, _, hh, ?_⟩, hk⟩
    · rw [Instr.mapUpdate]
      simp only [Sem.run_bind, run_underlying ht, Result.andThen, hget, h.ok, h1, hi]
      simp only [Array.getElem?_eq_getElem hqe, Option.map_some, Option.getD_some, hkey, Instr.keyThatStays, h.same, if_true, Sem.run_pure, hr]
    · rw [Array.toList_modify]
      apply List.ext_getElem?
      intro j
      have hj := congrArg (fun l => l[j]?) he
      simp only [List.getElem?_map, List.getElem?_modify, List.getElem?_set] at hj ⊢
      by_cases hjq : q.1 = j
      · subst hjq
        simp [hqe, hq]
      · simp only [hjq, if_false]
        simpa using hj
end Go.Proofs.Ytaegldcifhgnmaa.A

/- The keys of the map of the pairs that were met. -/
namespace Go.Proofs.Ytaegldcifhgnmaa.A
open Go.RowKit Go.Proofs.YtaegldcifhgnmaaW.PrintWords Go.Proofs.YtaegldcifhgnmaaW.PrintMore
theorem part_i0 (a b : Int) (w : World) : (part 3 #[.int .i64 a, .int .i64 b] 0).run Try.prog w = .ok (.int .i64 a) w := by go_simp
theorem part_i1 (a b : Int) (w : World) : (part 3 #[.int .i64 a, .int .i64 b] 1).run Try.prog w = .ok (.int .i64 b) w := by go_simp
theorem cells_of3 : Try.prog.cellsOf 3 = 1 := by kernel_rfl
theorem eq3 (d : Nat) (a b : Int) (w : World) : (Op.equalIn (d + 1) 3 (.int .i64 a) (.int .i64 b)).run Try.prog w = .ok (a == b) w := by
  go_simp
theorem eqA88 (d : Nat) (w : World) (x0 y0 : Int) (x1 y1 : Int) :
    (Op.equalIn (d + 2) 88 (.agg #[.int .i64 x0, .int .i64 x1]) (.agg #[.int .i64 y0, .int .i64 y1])).run Try.prog w = .ok (x0 == y0 && (x1 == y1)) w := by
  obtain ⟨i3, hi, hz0, hz1, hz2⟩ := info_parts info3
  rw [show d + 2 = (d + 1) + 1 from rfl, run_equalIn_array (P := Try.prog) w (d + 1) _ _ Try.underlying88 hi, cells_of3]
  show (Op.eqItems (d + 1) 3 1 _ _ [0, 1]).run Try.prog w = _
  simp only [Op.eqItems, Sem.run_bind, Nat.zero_mul, Nat.one_mul, part_i0, eq3, Result.andThen_ok]
  cases x0 == y0
  · simp
  · simp only [Bool.not_true, Bool.false_eq_true, if_false, Sem.run_bind, part_i1, eq3, Result.andThen_ok, Bool.true_and]
    cases x1 == y1 <;> simp

/-- A pair, as a key. -/
def encT (k : Int × Int) : Value := .agg #[.int .i64 k.1, .int .i64 k.2]

theorem check_int (e : Bool) (n : Nat) (t : TypeId) (k : IntKind) (x : Int) (w : World) (ht : Try.prog.underlying t = some (.int k)) : (Instr.checkKey e (n + 1) t (.int k x)).run Try.prog w = .ok () w := by
  rw [Instr.checkKey]
  simp [run_underlying ht]
theorem check88 (e : Bool) (n : Nat) (a b : Int) (w : World) : (Instr.checkKey e (n + 2) 88 (.agg #[.int .i64 a, .int .i64 b])).run Try.prog w = .ok () w := by
  obtain ⟨i3, hi, hz0, hz1, hz2⟩ := info_parts info3
  rw [Instr.checkKey]
  simp only [Sem.run_bind, run_underlying Try.underlying88, Result.andThen]
  simp only [List.range'_succ, List.range'_zero, Std.Legacy.Range.forIn_eq_forIn_range', Std.Legacy.Range.size, Nat.sub_zero, Nat.add_one_sub_one, Nat.div_one, List.forIn_cons, List.forIn_nil, Sem.run_bind, run_sizeOf w hi, Result.andThen_ok, Nat.zero_add, Nat.zero_mul, Nat.one_mul, part_i0, check_int _ _ _ _ _ _ Try.underlying3]
  simp [part_i1, check_int _ _ _ _ _ _ Try.underlying3]

theorem depth_eq : Op.maxDepth = 9998 + 2 := by simp [Op.maxDepth]

theorem kindT : KeyKind Try.prog 88 encT where
  eq a b w := by
    obtain ⟨a1, a2⟩ := a
    obtain ⟨b1, b2⟩ := b
    have e : ((a1 == b1) && (a2 == b2)) = decide ((a1, a2) = (b1, b2)) := by
      rw [Bool.eq_iff_iff]
      simp
    rw [Op.equal, depth_eq, ← e]
    exact eqA88 9998 w a1 b1 a2 b2
  ok a e w := by
    rw [show (10000 : Nat) = 9998 + 2 from rfl]
    exact check88 e 9998 a.1 a.2 w
  now d hd a b := by
    rw [Try.underlying88] at hd
    cases hd
    rfl
  kind := ⟨_, Try.underlying88⟩
  same a := by simp [encT, Instr.sameBits]
end Go.Proofs.Ytaegldcifhgnmaa.A

/- read: what it says of drovers and ties. -/
namespace Go.Proofs.Ytaegldcifhgnmaa.A
open Go.RowKit Go.Proofs.YtaegldcifhgnmaaW.PrintWords Go.Proofs.YtaegldcifhgnmaaW.PrintMore
/-- Is a tie in order, and not among those before it? -/
def okT (n : Int) (t : S39) : Bool := decide (0 ≤ t.f0) && decide (t.f0 < t.f1) && decide (t.f1 < n)
def pairT (t : S39) : Int × Int := (t.f0, t.f1)
def okAt (n : Int) (l : List S39) (i : Nat) : Bool := okT n (l.getD i z39) && !((l.take i).map pairT).contains (pairT (l.getD i z39))
def okTies (n : Int) (l : List S39) : Bool := (List.range l.length).all (okAt n l)
/-- The errors of ties. -/
def tiesE (n : Int) (l : List S39) : Int := if n < 1 ∨ 8 < n then 2 else if 20 < l.length then 3 else if okTies n l = true then 0 else 2

theorem run_zero4 (w : World) : (zeroValue 4).run Try.prog w = .ok (.bool false) w := by kernel_rfl

/-- The map of those that were met. -/
def Met (w : World) (b : Nat) (ps : List (Int × Int)) : Prop :=
  ∃ m : List ((Int × Int) × Value), MapIs encT w b m ∧ (∀ q ∈ m, q.2 = .bool true) ∧ ∀ k, (∃ q ∈ m, q.1 = k) ↔ k ∈ ps
theorem Met.keep {w w' : World} {b : Nat} {ps : List (Int × Int)} (h : Met w b ps) (hb : Below w.heap.size w w') : Met w' b ps := by
  obtain ⟨mm, ⟨es, clock, h1, h2⟩, h3⟩ := h
  exact ⟨mm, ⟨es, clock, (hb.block b (Array.getElem?_eq_some_iff.1 h1).1).trans h1, h2⟩, h3⟩
theorem Met.look {w : World} {b : Nat} {ps : List (Int × Int)} (h : Met w b ps) (x y : Int) :
    (Instr.lookup 87 (.map (some b)) (.agg #[.int .i64 x, .int .i64 y]) false).run Try.prog w = .ok (.bool (ps.contains (x, y))) w := by
  obtain ⟨m, h1, h2, h3⟩ := h
  have hr := lookup_run kindT Try.underlying87 run_zero4 h1 (x, y)
  cases hi : idx m (x, y) with
  | none =>
    rw [hi] at hr
    have : ps.contains (x, y) = false := by
      rw [List.contains_eq_mem, decide_eq_false_iff_not]
      intro hm
      obtain ⟨q, hq, e⟩ := (h3 (x, y)).2 hm
      exact idx_none hi q hq e
    rw [this]; exact hr
  | some q =>
    rw [hi] at hr
    obtain ⟨hq, k1, k2⟩ := idx_some hi
    have : ps.contains (x, y) = true := by
      rw [List.contains_eq_mem, decide_eq_true_iff]
      exact (h3 (x, y)).1 ⟨_, List.getElem_mem hq, k1⟩
    rw [this]
    have hv := h2 _ (List.getElem_mem hq)
    rw [k2] at hv
    exact hr.trans (by rw [Option.map_some, hv]; rfl)
theorem mem_put {κ : Type} [DecidableEq κ] {m : List (κ × Value)} {k : κ} {v : Value} (c : κ) : (∃ q ∈ putM m k v, q.1 = c) ↔ (∃ q ∈ m, q.1 = c) ∨ c = k := by
  unfold putM
  cases hi : idx m k with
  | none =>
    simp only [List.mem_append, List.mem_singleton]
    constructor
    · rintro ⟨q, hq | rfl, e⟩
      · exact .inl ⟨q, hq, e⟩
      · exact .inr e.symm
    · rintro (⟨q, hq, e⟩ | rfl)
      · exact ⟨q, .inl hq, e⟩
      · exact ⟨_, .inr rfl, rfl⟩
  | some q =>
    obtain ⟨hq, k1, k2⟩ := idx_some hi
    constructor
    · rintro ⟨p, hp, e⟩
      rcases List.mem_or_eq_of_mem_set hp with hp | rfl
      · exact .inl ⟨p, hp, e⟩
      · exact .inr e.symm
    · rintro (⟨p, hp, e⟩ | rfl)
      · obtain ⟨i, hi', rfl⟩ := List.mem_iff_getElem.1 hp
        by_cases h : q.1 = i
        · subst h
          exact ⟨(k, v), List.mem_iff_getElem.2 ⟨q.1, by simpa using hq, by simp⟩, k1.symm.trans e⟩
        · exact ⟨_, List.mem_iff_getElem.2 ⟨i, by simpa using hi', by rw [List.getElem_set_ne h]⟩, e⟩
      · exact ⟨(c, v), List.mem_iff_getElem.2 ⟨q.1, by simpa using hq, by simp⟩, rfl⟩
theorem Met.store {w : World} {b : Nat} {ps : List (Int × Int)} (h : Met w b ps) (x y : Int) :
    ∃ w', (Instr.mapUpdate 87 (.map (some b)) (.agg #[.int .i64 x, .int .i64 y]) (.bool true)).run Try.prog w = .ok () w' ∧ Met w' b (ps ++ [(x, y)]) ∧ Keep b w w' := by
  obtain ⟨m, h1, h2, h3⟩ := h
  obtain ⟨w', hr, hm, hk⟩ := update_run kindT Try.underlying87 h1 (x, y) (.bool true)
  refine ⟨w', hr, ⟨_, hm, fun q hq => ?_, fun k => ?_⟩, hk⟩
  · rcases mem_putM hq with rfl | hq
    · rfl
    · exact h2 q hq
  · rw [mem_put, h3, List.mem_append, List.mem_singleton]
theorem Met.new {b : Nat} (w : World) (h : w.heap.size = b) : Met (w.alloc (.map #[] 0)) b [] := by
  subst h
  exact ⟨[], ⟨#[], 0, heap_alloc_new w _, rfl⟩, (fun q hq => by cases hq), fun k => by simp⟩

theorem okTies_no {n : Int} {l : List S39} {i : Nat} (hi : i < l.length) (h : okAt n l i = false) : okTies n l = false := by
  unfold okTies
  rw [List.all_eq_false]
  exact ⟨i, List.mem_range.2 hi, by rw [h]; simp⟩
theorem okTies_yes {n : Int} {l : List S39} (h : ∀ i, i < l.length → okAt n l i = true) : okTies n l = true := by
  unfold okTies
  rw [List.all_eq_true]
  exact fun i hi => h i (List.mem_range.1 hi)
end Go.Proofs.Ytaegldcifhgnmaa.A

/- read: its walk. -/
namespace Go.Proofs.Ytaegldcifhgnmaa.A
open Go.RowKit Go.Proofs.YtaegldcifhgnmaaW.PrintWords Go.Proofs.YtaegldcifhgnmaaW.PrintMore
theorem okAt_parts {n : Int} {l : List S39} {i : Nat} {t : S39} (ht : l.getD i z39 = t) {b : Bool} (h : ((l.take i).map pairT).contains (t.f0, t.f1) = b) : okAt n l i = (okT n t && !b) := by
  unfold okAt
  rw [ht]
  show (okT n t && !(((l.take i).map pairT).contains (t.f0, t.f1))) = _
  rw [h]

theorem read_start (w : World) :
    ((w.alloc (.cells #[.int .i64 0, .slice none 0 0] 59)).alloc (.map #[] 0)).heap[w.heap.size]? = some (.cells #[.int .i64 0, .slice none 0 0] 59 (0, 0)) ∧ Met ((w.alloc (.cells #[.int .i64 0, .slice none 0 0] 59)).alloc (.map #[] 0)) (w.heap.size + 1) [] ∧ Below w.heap.size w ((w.alloc (.cells #[.int .i64 0, .slice none 0 0] 59)).alloc (.map #[] 0)) := by
  have h1 : (w.alloc (.cells #[.int .i64 0, .slice none 0 0] 59)).heap.size = w.heap.size + 1 := by simp
  refine ⟨?_, Met.new _ h1, below_alloc (below_alloc (Below.refl _ _) _) _⟩
  have hb : Below (w.alloc (.cells #[.int .i64 0, .slice none 0 0] 59)).heap.size (w.alloc (.cells #[.int .i64 0, .slice none 0 0] 59)) ((w.alloc (.cells #[.int .i64 0, .slice none 0 0] 59)).alloc (.map #[] 0)) := below_alloc (Below.refl _ _) _
  exact (hb.block _ (by omega)).trans (heap_alloc_new w _)

theorem below_keep {B b : Nat} {w w1 w2 : World} (h : Below B w w1) (k : Keep b w1 w2) (hB : B ≤ w1.heap.size) (hb : B ≤ b) : Below B w w2 :=
  ⟨k.os.trans h.os, k.tape.trans h.tape, k.output.trans h.output, Nat.le_trans h.size k.size, fun i hi => (k.block i (by omega) (by omega)).trans (h.block i hi)⟩

def ReadIs (n : Int) (A : Option Addr) (c : Nat) (l : List S39) (e : Ending) : Prop :=
  (tiesE n l = 0 ∧ e = .returned (.tuple #[.agg #[.int .i64 n, .slice A l.length c], .int .i64 0])) ∨ (tiesE n l ≠ 0 ∧ e = .returned (.tuple #[.agg #[.int .i64 0, .slice none 0 0], .int .i64 (tiesE n l)]))

set_option maxRecDepth 100000 in
set_option maxHeartbeats 1600000 in
theorem read_any (n : Int) (A : Option Addr) (c : Nat) (l : List S39) (w : World) (hr : Kd.C k39 w A l.length l) :
    Calls Try.prog 46 #[.int .i64 n, .slice A l.length c] w fun e w' => ReadIs n A c l e ∧ Below w.heap.size w w' := by
  have HB := Aside0.mk (Below.refl w.heap.size w)
  have HR := Aside0.mk hr
  clear hr
  by_cases h1 : n < 1
  · have hE : Aside0 (tiesE n l = 2) := ⟨by unfold tiesE; rw [if_pos (.inl h1)]⟩
    go_enter Try.func46, Try.ntmps46
    go_wp2
    exact bodyPost_ret (v := .tuple #[.agg #[.int .i64 0, .slice none 0 0], .int .i64 2]) (by simp [results, Try.results46, go_sem]) rfl ⟨.inr ⟨by rw [hE.out]; decide, by rw [hE.out]⟩, below_alloc HB.out _⟩
  by_cases h9 : 8 < n
  · have hE : Aside0 (tiesE n l = 2) := ⟨by unfold tiesE; rw [if_pos (.inr h9)]⟩
    go_enter Try.func46, Try.ntmps46
    go_wp2
    exact bodyPost_ret (v := .tuple #[.agg #[.int .i64 0, .slice none 0 0], .int .i64 2]) (by simp [results, Try.results46, go_sem]) rfl ⟨.inr ⟨by rw [hE.out]; decide, by rw [hE.out]⟩, below_alloc HB.out _⟩
  by_cases hl : 20 < l.length
  · have hE : Aside0 (tiesE n l = 3) := ⟨by unfold tiesE; rw [if_neg (by omega), if_pos hl]⟩
    go_enter Try.func46, Try.ntmps46
    go_wp2
    exact bodyPost_ret (v := .tuple #[.agg #[.int .i64 0, .slice none 0 0], .int .i64 3]) (by simp [results, Try.results46, go_sem]) rfl ⟨.inr ⟨by rw [hE.out]; decide, by rw [hE.out]⟩, below_alloc HB.out _⟩
  have HE : Aside0 (tiesE n l = if okTies n l = true then 0 else 2) := ⟨by unfold tiesE; rw [if_neg (by omega), if_neg hl]⟩
  have hmm := @run_makeMap Try.prog
  go_enter Try.func46, Try.ntmps46
  go_wp2
  clear hmm
  have HS := Aside0.mk (read_start w)
  clear HB
  go_loopg [8, 25] l.length (fun gg _ v25 wr => ∃ i : Nat, i ≤ l.length ∧ l.length - i ≤ gg ∧ v25 = .int .i64 i ∧ Aside0 (wr.heap[w.heap.size]? = some (.cells #[.int .i64 0, .slice none 0 0] 59 (0, 0)) ∧ Met wr (w.heap.size + 1) ((l.take i).map pairT) ∧ Below w.heap.size w wr) ∧ Aside0 (∀ j, j < i → okAt n l j = true))
  case atStart => exact ⟨0, Nat.zero_le _, by omega, rfl, HS, ⟨fun j hj => absurd hj (Nat.not_lt_zero _)⟩⟩
  case round =>
    clear HS
    obtain ⟨i, hi, hgg, rfl, HI, AF⟩ := hrel
    by_cases hlt : i < l.length
    · have hltz : (i : Int) < (l.length : Int) := by omega
      obtain ⟨ad, rfl, hx0, hx1, hx2⟩ := at_T39 (Kd.C_below HR.out HI.out.2.2) (i : Int) (by omega) (by omega)
      rw [Int.toNat_natCast] at hx0 hx1 hx2
      have hrd : rd_T39 l (i : Int) = l.getD i z39 := by simp [rd_T39]
      rw [hrd] at hx0 hx1 hx2
      clear hrd
      generalize hy : l.getD i z39 = y at hx0 hx1 hx2
      have HY := Aside0.mk hy
      clear hy
      have hm8 := HI.out.2.1.keep (below_alloc (Below.refl _ _) (.cells #[.int .i64 y.f0, .int .i64 y.f1, .bool y.f2] 39))
      have hlook := hm8.look y.f0 y.f1
      obtain ⟨cb, hcb⟩ : ∃ cb, ((l.take i).map pairT).contains (y.f0, y.f1) = cb := ⟨_, rfl⟩
      rw [hcb] at hlook
      have HCB := Aside0.mk hcb
      have HM8 := Aside0.mk hm8
      clear hcb hm8
      have hb8 := below_alloc HI.out.2.2 (.cells #[.int .i64 y.f0, .int .i64 y.f1, .bool y.f2] 39)
      have hg8 := (below_alloc (Below.refl wr.heap.size wr) (.cells #[.int .i64 y.f0, .int .i64 y.f1, .bool y.f2] 39)).block _ (blk_lt HI.out.1)
      have hlt0 := blk_lt HI.out.1
      obtain ⟨r0, r1, rf0, rf1⟩ := cells2 HI.out.1
      have HB8 := Aside0.mk hb8
      have HG8 := Aside0.mk (hg8.trans HI.out.1)
      clear hb8 hg8
      have bad : ∀ W : World, okAt n l i = false → Below w.heap.size w W → ReadIs n (some ad) c l (.returned (.tuple #[.agg #[.int .i64 0, .slice none 0 0], .int .i64 2])) ∧ Below w.heap.size w W := fun W h hb => ⟨.inr ⟨by rw [HE.out, okTies_no hlt h]; decide, by rw [HE.out, okTies_no hlt h]; rfl⟩, hb⟩
      have BAD := Aside0.mk bad
      clear bad
      by_cases c1 : y.f0 < 0
      · go_wp2
        refine bodyPost_ret (v := .tuple #[.agg #[.int .i64 0, .slice none 0 0], .int .i64 2]) (by simp [results, Try.results46, go_sem, hlt0, r0, r1]) rfl (BAD.out _ ?_ ?_)
        · rw [okAt_parts HY.out HCB.out]; simp [okT]; omega
        · exact below_alloc ((HI.out.2.2.setCell (Nat.le_refl _) _).setCell (Nat.le_refl _) _) _
      by_cases c2 : y.f1 ≤ y.f0
      · go_wp2
        refine bodyPost_ret (v := .tuple #[.agg #[.int .i64 0, .slice none 0 0], .int .i64 2]) (by simp [results, Try.results46, go_sem, hlt0, r0, r1]) rfl (BAD.out _ ?_ ?_)
        · rw [okAt_parts HY.out HCB.out]; simp [okT]; omega
        · exact below_alloc ((HI.out.2.2.setCell (Nat.le_refl _) _).setCell (Nat.le_refl _) _) _
      by_cases c3 : n ≤ y.f1
      · go_wp2
        refine bodyPost_ret (v := .tuple #[.agg #[.int .i64 0, .slice none 0 0], .int .i64 2]) (by simp [results, Try.results46, go_sem, hlt0, r0, r1]) rfl (BAD.out _ ?_ ?_)
        · rw [okAt_parts HY.out HCB.out]; simp [okT]; omega
        · exact below_alloc ((HI.out.2.2.setCell (Nat.le_refl _) _).setCell (Nat.le_refl _) _) _
      cases cb with
      | true =>
        go_wp2
        refine bodyPost_ret (v := .tuple #[.agg #[.int .i64 0, .slice none 0 0], .int .i64 2]) (by simp [results, Try.results46, go_sem, hlt0, r0, r1]) rfl (BAD.out _ ?_ ?_)
        · rw [okAt_parts HY.out HCB.out]; simp
        · exact below_alloc ((HI.out.2.2.setCell (Nat.le_refl _) _).setCell (Nat.le_refl _) _) _
      | false =>
        obtain ⟨w9, hupd, hm9, hk9⟩ := HM8.out.store y.f0 y.f1
        have HM9 := Aside0.mk hm9
        have HK9 := Aside0.mk hk9
        clear hm9 hk9
        go_wp2
        go_roundg (l.length - (i + 1))
        case measure => omega
        case rel =>
          refine ⟨i + 1, by omega, by omega, by go_num, ⟨?_, ?_, ?_⟩, ⟨fun j hj => ?_⟩⟩
          · exact (HK9.out.block _ (by simp; omega) (by omega)).trans HG8.out
          · rw [List.take_succ_eq_append_getElem hlt, List.map_append]
            have hyy : l[i] = y := by rw [← HY.out, List.getD_eq_getElem?_getD, List.getElem?_eq_getElem hlt]; rfl
            rw [hyy]
            exact HM9.out
          · exact below_keep HB8.out HK9.out HB8.out.size (by omega)
          · by_cases e : j = i
            · subst e
              rw [okAt_parts HY.out HCB.out]
              simp [okT]; omega
            · exact AF.out j (by omega)
    · have hltz : ¬ (i : Int) < (l.length : Int) := by omega
      have hie : i = l.length := by omega
      obtain ⟨r0, r1, rf0, rf1⟩ := cells2 HI.out.1
      have hlt0 := blk_lt HI.out.1
      have hE : Aside0 (tiesE n l = 0) := ⟨by rw [HE.out, okTies_yes (fun j hj => AF.out j (by omega))]; rfl⟩
      clear hie
      go_wp2
      exact bodyPost_ret (v := .tuple #[.agg #[.int .i64 n, .slice A l.length c], .int .i64 0]) (by simp [results, Try.results46, go_sem, r0, r1]) rfl ⟨.inl ⟨hE.out, rfl⟩, (HI.out.2.2.setCell (by simp) _).setCell (by simp) _⟩
end Go.Proofs.Ytaegldcifhgnmaa.A

/- Which ties are not as calm with a set asks; as the kit's print writes it. -/
namespace Go.Proofs.Ytaegldcifhgnmaa.A
open Go.RowKit Go.Proofs.YtaegldcifhgnmaaW.PrintWords Go.Proofs.YtaegldcifhgnmaaW.PrintLast Go.Proofs.YtaegldcifhgnmaaW.PrintMore
section
attribute [local go_sem] max2_int min2_int max_two min_two max_three min_three max_four min_four   -- for this text's walks alone
set_option linter.unusedVariables false
set_option linter.unusedSimpArgs false
/-! ### feuds_crosses: function 74 -/
def feuds_crosses.f (a0_0 : Int) (a0_1 : Int) (a0_2 : Bool) (a1 : Int) : Option (Bool) := if 0 ≤ a0_0 then (if 0 ≤ a0_1 then (some ((Go.bits .and .i64 (shr .i64 a1 a0_0) 1) != (Go.bits .and .i64 (shr .i64 a1 a0_1) 1))) else (none)) else (none)
set_option maxHeartbeats 8000000 in
set_option maxRecDepth 100000 in
theorem feuds_crosses.calls (a0_0 : Int) (a0_1 : Int) (a0_2 : Bool) (a1 : Int) (r : Bool) (w : World) (h : feuds_crosses.f a0_0 a0_1 a0_2 a1 = some r) :
    Calls Try.prog 74 #[.agg #[.int .i64 a0_0, .int .i64 a0_1, .bool a0_2], .int .i64 a1] w fun e w' => e = .returned (.bool r) ∧ Below w.heap.size w w' := by
  have hu39 := Try.underlying39
  have HB := Aside0.mk (Below.refl w.heap.size w)
  have H : (if 0 ≤ a0_0 then (if 0 ≤ a0_1 then (some ((Go.bits .and .i64 (shr .i64 a1 a0_0) 1) != (Go.bits .and .i64 (shr .i64 a1 a0_1) 1))) else (none)) else (none)) = some r := h
  clear h
  by_cases c3 : 0 ≤ a0_0
  · rw [if_pos c3] at H
    have c3b0 := eq_true c3
    have c3b1 : decide (0 ≤ a0_0) = true := decide_eq_true c3
    clear c3
    obtain ⟨ji4, hji4⟩ : ∃ j_ : Int, (shr .i64 a1 a0_0) = j_ := ⟨_, rfl⟩
    replace H : (if 0 ≤ a0_1 then (some ((Go.bits .and .i64 (ji4) 1) != (Go.bits .and .i64 (shr .i64 a1 a0_1) 1))) else (none)) = some r := by first | (rw [hji4] at H; exact H) | (simp only [hji4] at H ⊢; exact H)
    have hji4_ : (a1 / 2 ^ min a0_0.toNat 64) = ji4 := hji4
    have hji4z : a0_0 ≤ 64 → (a1 / 2 ^ a0_0.toNat) = ji4 := shr_small hji4
    by_cases c5 : 0 ≤ a0_1
    · rw [if_pos c5] at H
      have c5b0 := eq_true c5
      have c5b1 : decide (0 ≤ a0_1) = true := decide_eq_true c5
      clear c5
      obtain ⟨ji6, hji6⟩ : ∃ j_ : Int, (shr .i64 a1 a0_1) = j_ := ⟨_, rfl⟩
      replace H : (some ((Go.bits .and .i64 (ji4) 1) != (Go.bits .and .i64 (ji6) 1))) = some r := by first | (rw [hji6] at H; exact H) | (simp only [hji6] at H ⊢; exact H)
      have hji6_ : (a1 / 2 ^ min a0_1.toNat 64) = ji6 := hji6
      have hji6z : a0_1 ≤ 64 → (a1 / 2 ^ a0_1.toNat) = ji6 := shr_small hji6
      obtain rfl := Option.some.inj H
      go_enter Try.func74, Try.ntmps74
      go_wp2_with (first | ((with_reducible refine gate_dst (N := 2) rfl ?_); refine box_event ?hg (N := 2) ?hd (cs := #[.int .i64 a0_0, .int .i64 a0_1, .bool a0_2]) (t := 39) ?hr ?_; (case hd => rfl); (case hg => rfl); (case hr => first | (go_simp; done) | (go_simp; rfl)); intro gb102 hg w7 hbox hb; have n0_ := Aside0.mk (below_step (by repeat (first | (with_reducible first | exact HB.out | apply below_alloc | apply pw_below_drewN | apply below_drew1) | exact HB.out)) hb); have n1_ := Aside0.mk (hbox); have n2_ := Aside0.mk ((by rw [hg]; exact (below_size (by repeat (first | (with_reducible first | exact HB.out | apply below_alloc | apply pw_below_drewN | apply below_drew1) | exact HB.out))) : w.heap.size ≤ gb102)); have n3_ := Aside0.mk ((by rw [hg]; exact (below_size (by repeat (first | (with_reducible first | exact HB.out | apply below_alloc | apply pw_below_drewN | apply below_drew1) | exact HB.out))) : w.heap.size ≤ gb102)); clear HB; have HB := n0_; have BK102 := n1_; have GW102 := n2_; have GE102 := n3_; clear n0_ n1_ n2_ n3_; clear hb hbox hg; have hcz8_0 : w7.cell? ⟨gb102, 0, none⟩ = some (.int .i64 a0_0) := (blk_cell BK102.out 0).trans rfl; have hcz8_1 : w7.cell? ⟨gb102, 1, none⟩ = some (.int .i64 a0_1) := (blk_cell BK102.out 1).trans rfl; have hcz8_2 : w7.cell? ⟨gb102, 2, none⟩ = some (.bool a0_2) := (blk_cell BK102.out 2).trans rfl; have hfz8_0 := blk_frozen BK102.out 0; have hfz8_1 := blk_frozen BK102.out 1; have hfz8_2 := blk_frozen BK102.out 2))
      repeat (go_quiet (first | ((with_reducible refine gate_dst (N := 2) rfl ?_); refine box_event ?hg (N := 2) ?hd (cs := #[.int .i64 a0_0, .int .i64 a0_1, .bool a0_2]) (t := 39) ?hr ?_; (case hd => rfl); (case hg => rfl); (case hr => first | (go_simp; done) | (go_simp; rfl)); intro gb102 hg w7 hbox hb; have n0_ := Aside0.mk (below_step (by repeat (first | (with_reducible first | exact HB.out | apply below_alloc | apply pw_below_drewN | apply below_drew1) | exact HB.out)) hb); have n1_ := Aside0.mk (hbox); have n2_ := Aside0.mk ((by rw [hg]; exact (below_size (by repeat (first | (with_reducible first | exact HB.out | apply below_alloc | apply pw_below_drewN | apply below_drew1) | exact HB.out))) : w.heap.size ≤ gb102)); have n3_ := Aside0.mk ((by rw [hg]; exact (below_size (by repeat (first | (with_reducible first | exact HB.out | apply below_alloc | apply pw_below_drewN | apply below_drew1) | exact HB.out))) : w.heap.size ≤ gb102)); clear HB; have HB := n0_; have BK102 := n1_; have GW102 := n2_; have GE102 := n3_; clear n0_ n1_ n2_ n3_; clear hb hbox hg; have hcz8_0 : w7.cell? ⟨gb102, 0, none⟩ = some (.int .i64 a0_0) := (blk_cell BK102.out 0).trans rfl; have hcz8_1 : w7.cell? ⟨gb102, 1, none⟩ = some (.int .i64 a0_1) := (blk_cell BK102.out 1).trans rfl; have hcz8_2 : w7.cell? ⟨gb102, 2, none⟩ = some (.bool a0_2) := (blk_cell BK102.out 2).trans rfl; have hfz8_0 := blk_frozen BK102.out 0; have hfz8_1 := blk_frozen BK102.out 1; have hfz8_2 := blk_frozen BK102.out 2)); try go_wp2_with (first | ((with_reducible refine gate_dst (N := 2) rfl ?_); refine box_event ?hg (N := 2) ?hd (cs := #[.int .i64 a0_0, .int .i64 a0_1, .bool a0_2]) (t := 39) ?hr ?_; (case hd => rfl); (case hg => rfl); (case hr => first | (go_simp; done) | (go_simp; rfl)); intro gb102 hg w7 hbox hb; have n0_ := Aside0.mk (below_step (by repeat (first | (with_reducible first | exact HB.out | apply below_alloc | apply pw_below_drewN | apply below_drew1) | exact HB.out)) hb); have n1_ := Aside0.mk (hbox); have n2_ := Aside0.mk ((by rw [hg]; exact (below_size (by repeat (first | (with_reducible first | exact HB.out | apply below_alloc | apply pw_below_drewN | apply below_drew1) | exact HB.out))) : w.heap.size ≤ gb102)); have n3_ := Aside0.mk ((by rw [hg]; exact (below_size (by repeat (first | (with_reducible first | exact HB.out | apply below_alloc | apply pw_below_drewN | apply below_drew1) | exact HB.out))) : w.heap.size ≤ gb102)); clear HB; have HB := n0_; have BK102 := n1_; have GW102 := n2_; have GE102 := n3_; clear n0_ n1_ n2_ n3_; clear hb hbox hg; have hcz8_0 : w7.cell? ⟨gb102, 0, none⟩ = some (.int .i64 a0_0) := (blk_cell BK102.out 0).trans rfl; have hcz8_1 : w7.cell? ⟨gb102, 1, none⟩ = some (.int .i64 a0_1) := (blk_cell BK102.out 1).trans rfl; have hcz8_2 : w7.cell? ⟨gb102, 2, none⟩ = some (.bool a0_2) := (blk_cell BK102.out 2).trans rfl; have hfz8_0 := blk_frozen BK102.out 0; have hfz8_1 := blk_frozen BK102.out 1; have hfz8_2 := blk_frozen BK102.out 2)))
      go_ret
      exact ⟨by first | rfl | (simp [errW_none, errW_some] <;> rfl) | (simp only [← hji4, ← hji6]; first | rfl | (simp [errW_none, errW_some] <;> rfl)) | (simp [*, errW_none, errW_some] <;> rfl), by repeat (first | (with_reducible first | exact HB.out | apply below_alloc | apply pw_below_drewN | apply below_drew1 | refine below_set ?_ GE102.out) | exact HB.out)⟩
    · rw [if_neg c5] at H
      exact absurd H (by simp)
  · rw [if_neg c3] at H
    exact absurd H (by simp)

/-! ### feuds_net_wrong: function 47 -/
def feuds_net_wrong.l0 : Nat → Int → List Int → List (S39) → Int → Int → Option (List Int)
  | 0, _, _, _, _, _ => none
  | k + 1, x1, x5, x9, x10, x11 => if x11 < x10 then (if 0 ≤ x11 then (if x11 < (x9.length : Int) then ((feuds_crosses.f ((rd_T39 x9 x11).f0) ((rd_T39 x9 x11).f1) ((rd_T39 x9 x11).f2) x1).bind fun t106 => (if (t106 != ((rd_T39 x9 x11).f2)) = true then (if x5.length < 17592186044416 then (feuds_net_wrong.l0 k x1 (x5 ++ [x11]) x9 x10 (wrap64 (x11 + 1))) else (none)) else (feuds_net_wrong.l0 k x1 x5 x9 x10 (wrap64 (x11 + 1))))) else (none)) else (none)) else (some x5)
def feuds_net_wrong.f (k : Nat) (a0_0 : Int) (l0_1 : List (S39)) (a1 : Int) : Option (List Int) := feuds_net_wrong.l0 k a1 ([] : List Int) l0_1 (l0_1.length : Int) 0
set_option maxHeartbeats 8000000 in
set_option maxRecDepth 100000 in
theorem feuds_net_wrong.calls (k : Nat) (a0_0 : Int) (A0_1 : Option Addr) (c0_1 : Nat) (l0_1 : List (S39)) (a1 : Int) (r : List Int) (w : World) (hr0_1 : Kd.C k39 w A0_1 l0_1.length l0_1) (hc0_1 : l0_1.length ≤ c0_1) (h : feuds_net_wrong.f k a0_0 l0_1 a1 = some r) :
    Calls Try.prog 47 #[.agg #[.int .i64 a0_0, .slice A0_1 l0_1.length c0_1], .int .i64 a1] w fun e w' => ∃ v0_ : Value, e = .returned (v0_) ∧ Kd.R (Kd.int .i64) 3 w' w.heap.size (fun _ => True) v0_ r ∧ Below w.heap.size w w' := by
  have hu59 := Try.underlying59
  have hu39 := Try.underlying39
  have HR0_1 := Aside0.mk hr0_1
  have HC0_1 := Aside0.mk hc0_1
  clear hr0_1 hc0_1
  have HB := Aside0.mk (Below.refl w.heap.size w)
  have H : (feuds_net_wrong.l0 k a1 ([] : List Int) l0_1 (l0_1.length : Int) 0) = some r := h
  clear h
  have H' := Aside0.mk H
  clear H
  go_enter Try.func47, Try.ntmps47
  go_wp2_with (first | ((with_reducible refine gate_dst (N := 2) rfl ?_); refine box_event ?hg (N := 2) ?hd (cs := #[.int .i64 a0_0, .slice A0_1 l0_1.length c0_1]) (t := 59) ?hr ?_; (case hd => rfl); (case hg => rfl); (case hr => first | (go_simp; done) | (go_simp; rfl)); intro gb103 hg w3 hbox hb; have n0_ := Aside0.mk (below_step (by repeat (first | (with_reducible first | exact HB.out | apply below_alloc | apply pw_below_drewN | apply below_drew1) | exact HB.out)) hb); have n1_ := Aside0.mk (hbox); have n2_ := Aside0.mk ((by rw [hg]; exact (below_size (by repeat (first | (with_reducible first | exact HB.out | apply below_alloc | apply pw_below_drewN | apply below_drew1) | exact HB.out))) : w.heap.size ≤ gb103)); have n3_ := Aside0.mk ((by rw [hg]; exact (below_size (by repeat (first | (with_reducible first | exact HB.out | apply below_alloc | apply pw_below_drewN | apply below_drew1) | exact HB.out))) : w.heap.size ≤ gb103)); clear HB; have HB := n0_; have BK103 := n1_; have GW103 := n2_; have GE103 := n3_; clear n0_ n1_ n2_ n3_; clear hb hbox hg; have hcz4_0 : w3.cell? ⟨gb103, 0, none⟩ = some (.int .i64 a0_0) := (blk_cell BK103.out 0).trans rfl; have hcz4_1 : w3.cell? ⟨gb103, 1, none⟩ = some (.slice A0_1 l0_1.length c0_1) := (blk_cell BK103.out 1).trans rfl; have hfz4_0 := blk_frozen BK103.out 0; have hfz4_1 := blk_frozen BK103.out 1))
  go_loopg [5, 11] k (fun kq v5 v11 w' => ∃ (x5_1 : List Int) (x11_1 : Int), v11 = .int .i64 x11_1 ∧ Aside0 (feuds_net_wrong.l0 kq a1 x5_1 l0_1 (l0_1.length : Int) x11_1 = some r) ∧ Aside0 (kq ≤ k) ∧ Aside0 (Kd.R (Kd.int .i64) 3 w' w.heap.size (fun _ => True) v5 x5_1) ∧ Aside0 (w'.heap[gb103]? = some (.cells #[.int .i64 a0_0, (.slice A0_1 l0_1.length c0_1)] 59 (0, 0))) ∧ Aside0 (Below w.heap.size w w'))
  case atStart => exact ⟨(([] : List Int)), (0), (by first | rfl | (simp; done) | (simp [*]; done)), H', ⟨Nat.le_refl _⟩, ⟨by first | exact Kd.R_nil _ _ _ _ _ | exact Kd.N_nil _ _ _ _ _ | exact Kd.V_nil _ _ _ _ _ | exact Kd.Q_nil _ _ _ _ _ | exact Kd.S_nil _ _ _ _ _⟩, ⟨by (with_reducible repeat (first | refine blk_drewN ?_ _ | refine blk_drew ?_ | refine blk_alloc ?_ _)); exact BK103.out⟩, ⟨by repeat (first | (with_reducible first | exact HB.out | apply below_alloc | apply pw_below_drewN | apply below_drew1 | refine below_set ?_ GE103.out) | exact HB.out)⟩⟩
  case round =>
    clear H'
    try clear p2
    try clear c4
    try clear hcz4_0
    try clear hcz4_1
    try clear hfz4_0
    try clear hfz4_1
    obtain ⟨x5_1, x11_1, rfl, HA, HK1, HO_5, BK103, HB⟩ := hrel
    cases gk with
    | zero => exact absurd HA.out (by simp [feuds_net_wrong.l0])
    | succ k1 =>
      have H := HA.out
      clear HA
      simp only [feuds_net_wrong.l0] at H
      by_cases c5 : x11_1 < (l0_1.length : Int)
      · rw [if_pos c5] at H
        have c5b0 : decide (x11_1 < (l0_1.length : Int)) = true := decide_eq_true c5
        clear c5
        by_cases c6 : 0 ≤ x11_1
        · rw [if_pos c6] at H
          have c6b0 : decide (0 ≤ x11_1) = true := decide_eq_true c6
          clear c6
          by_cases c7 : x11_1 < (l0_1.length : Int)
          · rw [if_pos c7] at H
            have c7b0 : decide (x11_1 < (l0_1.length : Int)) = true := decide_eq_true c7
            clear c7
            replace H := Option.bind_eq_some_iff.mp H
            obtain ⟨t106, A80, H⟩ := H
            replace H : (if (t106 != ((rd_T39 l0_1 x11_1).f2)) = true then (if x5_1.length < 17592186044416 then (feuds_net_wrong.l0 k1 a1 (x5_1 ++ [x11_1]) l0_1 (l0_1.length : Int) (wrap64 (x11_1 + 1))) else (none)) else (feuds_net_wrong.l0 k1 a1 x5_1 l0_1 (l0_1.length : Int) (wrap64 (x11_1 + 1)))) = some r := H
            have A8 := Aside0.mk A80
            clear A80
            by_cases c9 : (t106 != ((rd_T39 l0_1 x11_1).f2)) = true
            · rw [if_pos c9] at H
              have c9b0 : (t106 != ((rd_T39 l0_1 x11_1).f2)) = true := c9
              (try (have c9b1 : decide (t106 = ((rd_T39 l0_1 x11_1).f2)) = false := by simpa using c9))
              (try (have c9b2 : (t106 == ((rd_T39 l0_1 x11_1).f2)) = false := by simpa using c9))
              (try (have c9b3 : ¬ (t106 = ((rd_T39 l0_1 x11_1).f2)) := by simpa using c9))
              clear c9
              by_cases c10 : x5_1.length < 17592186044416
              · rw [if_pos c10] at H
                have LMc10 := Aside0.mk c10
                clear c10
                obtain ⟨y107, hy107⟩ : ∃ y_ : List Int, y_ = (x5_1 ++ [x11_1]) := ⟨_, rfl⟩
                replace H : (feuds_net_wrong.l0 k1 a1 y107 l0_1 (l0_1.length : Int) (wrap64 (x11_1 + 1))) = some r := by first | (rw [hy107]; with_reducible exact H) | (have H2_ := (Option.bind_some _ _).symm.trans H; rw [hy107]; with_reducible exact H2_) | (have H2_ := (Option.bind_some _ _).symm.trans H; with_reducible exact H2_) | with_reducible exact H | (rw [hy107]; exact H) | exact H
                have Ny107 := Aside0.mk hy107
                clear hy107
                have H' := Aside0.mk H
                clear H
                have p104 : 0 ≤ (x11_1 : Int) := of_decide_eq_true (by first | (with_reducible assumption) | assumption)
                have q104 : x11_1 < (l0_1.length : Int) := of_decide_eq_true (by first | (with_reducible assumption) | assumption)
                obtain ⟨ad104, e104, hx104_0, hx104_1, hx104_2⟩ := at_T39 HR0_1.out x11_1 p104 q104
                cases e104
                replace hx104_0 := (HB.out.cell (World.block_lt_of_cell? w _ hx104_0)).trans hx104_0
                replace hx104_1 := (HB.out.cell (World.block_lt_of_cell? w _ hx104_1)).trans hx104_1
                replace hx104_2 := (HB.out.cell (World.block_lt_of_cell? w _ hx104_2)).trans hx104_2
                replace p104 := eq_true p104
                replace q104 := eq_true q104
                try go_wp2_with (first | ((with_reducible refine gate_dst (N := 7) rfl ?_); refine box_event ?hg (N := 7) ?hd (cs := #[.int .i64 0, .int .i64 0, .bool false]) (t := 39) ?hr ?_; (case hd => rfl); (case hg => rfl); (case hr => first | (go_simp; done) | (go_simp; rfl)); intro gb105 hg w11 hbox hb; have n0_ := Aside0.mk (Kd.R_below (by (with_reducible repeat (first | apply Kd.R_alloc | apply Kd.R_drewN | apply Kd.R_drew)); exact HO_5.out) hb); have n1_ := Aside0.mk (blk_below (g := gb103) (o := .cells #[.int .i64 a0_0, .slice (some ad104) l0_1.length c0_1] 59 (0, 0)) (by (with_reducible repeat (first | refine blk_drewN ?_ _ | refine blk_drew ?_ | refine blk_alloc ?_ _)); exact BK103.out) hb); have n2_ := Aside0.mk (below_step (by repeat (first | (with_reducible first | exact HB.out | apply below_alloc | apply pw_below_drewN | apply below_drew1 | refine below_set ?_ GE103.out) | exact HB.out)) hb); have n3_ := Aside0.mk (hbox); have n4_ := Aside0.mk ((by rw [hg]; exact (below_size (by repeat (first | (with_reducible first | exact HB.out | apply below_alloc | apply pw_below_drewN | apply below_drew1 | refine below_set ?_ GE103.out) | exact HB.out))) : w.heap.size ≤ gb105)); have n5_ := Aside0.mk ((by rw [hg]; exact (below_size (by repeat (first | (with_reducible first | exact HB.out | apply below_alloc | apply pw_below_drewN | apply below_drew1 | refine below_set ?_ GE103.out) | exact HB.out))) : w.heap.size ≤ gb105)); have n6_ := Aside0.mk ((by rw [hg]; exact Nat.ne_of_lt (blk_lt (g := gb103) (o := .cells #[.int .i64 a0_0, .slice (some ad104) l0_1.length c0_1] 59 (0, 0)) (by (with_reducible repeat (first | refine blk_drewN ?_ _ | refine blk_drew ?_ | refine blk_alloc ?_ _)); exact BK103.out)) : gb103 ≠ gb105)); have n7_ := Aside0.mk ((by rw [hg]; exact Nat.ne_of_gt (blk_lt (g := gb103) (o := .cells #[.int .i64 a0_0, .slice (some ad104) l0_1.length c0_1] 59 (0, 0)) (by (with_reducible repeat (first | refine blk_drewN ?_ _ | refine blk_drew ?_ | refine blk_alloc ?_ _)); exact BK103.out)) : gb105 ≠ gb103)); clear HO_5; clear BK103; clear HB; have HO_5 := n0_; have BK103 := n1_; have HB := n2_; have BK105 := n3_; have GW105 := n4_; have GE105 := n5_; have NB103_105 := n6_; have NB105_103 := n7_; clear n0_ n1_ n2_ n3_ n4_ n5_ n6_ n7_; clear hb hbox hg; have hnb12 := NB105_103.out; have hnc12 := NB103_105.out; have hcz13_0 : w11.cell? ⟨gb105, 0, none⟩ = some (.int .i64 0) := (blk_cell BK105.out 0).trans rfl; have hcz13_1 : w11.cell? ⟨gb105, 1, none⟩ = some (.int .i64 0) := (blk_cell BK105.out 1).trans rfl; have hcz13_2 : w11.cell? ⟨gb105, 2, none⟩ = some (.bool false) := (blk_cell BK105.out 2).trans rfl; have hfz13_0 := blk_frozen BK105.out 0; have hfz13_1 := blk_frozen BK105.out 1; have hfz13_2 := blk_frozen BK105.out 2))
                have n0_ : Aside0 (Kd.R (Kd.int .i64) 3 (((w11.setCell ⟨gb105, 0, none⟩ (.int .i64 ((rd_T39 l0_1 x11_1).f0))).setCell ⟨gb105, 1, none⟩ (.int .i64 ((rd_T39 l0_1 x11_1).f1))).setCell ⟨gb105, 2, none⟩ (.bool ((rd_T39 l0_1 x11_1).f2))) w.heap.size (fun _ => True) u5 x5_1) := ⟨by (with_reducible repeat (first | apply Kd.R_alloc | apply Kd.R_drewN | apply Kd.R_drew)); exact Kd.R_mono (Kd.R_far (p := ⟨gb105, 2, none⟩) (Kd.R_far (p := ⟨gb105, 1, none⟩) (Kd.R_far (p := ⟨gb105, 0, none⟩) (Kd.R_types HO_5.out BK105.out (by decide)) (fun _ hk => hk.2) (.int .i64 ((rd_T39 l0_1 x11_1).f0))) (fun _ hk => hk.2) (.int .i64 ((rd_T39 l0_1 x11_1).f1))) (fun _ hk => hk.2) (.bool ((rd_T39 l0_1 x11_1).f2))) (fun _ hk => trivial)⟩
                have n1_ : Aside0 ((((w11.setCell ⟨gb105, 0, none⟩ (.int .i64 ((rd_T39 l0_1 x11_1).f0))).setCell ⟨gb105, 1, none⟩ (.int .i64 ((rd_T39 l0_1 x11_1).f1))).setCell ⟨gb105, 2, none⟩ (.bool ((rd_T39 l0_1 x11_1).f2))).heap[gb103]? = some (.cells #[.int .i64 a0_0, .slice (some ad104) l0_1.length c0_1] 59 (0, 0))) := ⟨by (with_reducible repeat (first | refine blk_drewN ?_ _ | refine blk_drew ?_ | refine blk_alloc ?_ _)); refine blk_far ?_ NB103_105.out _; (with_reducible repeat (first | refine blk_drewN ?_ _ | refine blk_drew ?_ | refine blk_alloc ?_ _)); refine blk_far ?_ NB103_105.out _; (with_reducible repeat (first | refine blk_drewN ?_ _ | refine blk_drew ?_ | refine blk_alloc ?_ _)); refine blk_far ?_ NB103_105.out _; (with_reducible repeat (first | refine blk_drewN ?_ _ | refine blk_drew ?_ | refine blk_alloc ?_ _)); exact BK103.out⟩
                have n2_ : Aside0 ((((w11.setCell ⟨gb105, 0, none⟩ (.int .i64 ((rd_T39 l0_1 x11_1).f0))).setCell ⟨gb105, 1, none⟩ (.int .i64 ((rd_T39 l0_1 x11_1).f1))).setCell ⟨gb105, 2, none⟩ (.bool ((rd_T39 l0_1 x11_1).f2))).heap[gb105]? = some (.cells #[.int .i64 ((rd_T39 l0_1 x11_1).f0), .int .i64 ((rd_T39 l0_1 x11_1).f1), .bool ((rd_T39 l0_1 x11_1).f2)] 39 (0, 0))) := ⟨by (with_reducible repeat (first | refine blk_drewN ?_ _ | refine blk_drew ?_ | refine blk_alloc ?_ _)); refine blk_put (cs := #[.int .i64 ((rd_T39 l0_1 x11_1).f0), .int .i64 ((rd_T39 l0_1 x11_1).f1), .bool false]) ?_ 2 _ rfl; (with_reducible repeat (first | refine blk_drewN ?_ _ | refine blk_drew ?_ | refine blk_alloc ?_ _)); refine blk_put (cs := #[.int .i64 ((rd_T39 l0_1 x11_1).f0), .int .i64 0, .bool false]) ?_ 1 _ rfl; (with_reducible repeat (first | refine blk_drewN ?_ _ | refine blk_drew ?_ | refine blk_alloc ?_ _)); refine blk_put (cs := #[.int .i64 0, .int .i64 0, .bool false]) ?_ 0 _ rfl; (with_reducible repeat (first | refine blk_drewN ?_ _ | refine blk_drew ?_ | refine blk_alloc ?_ _)); exact BK105.out⟩
                have n3_ : Aside0 (Below w.heap.size w (((w11.setCell ⟨gb105, 0, none⟩ (.int .i64 ((rd_T39 l0_1 x11_1).f0))).setCell ⟨gb105, 1, none⟩ (.int .i64 ((rd_T39 l0_1 x11_1).f1))).setCell ⟨gb105, 2, none⟩ (.bool ((rd_T39 l0_1 x11_1).f2)))) := ⟨by repeat (first | (with_reducible first | exact HB.out | apply below_alloc | apply pw_below_drewN | apply below_drew1 | refine below_set ?_ GE103.out | refine below_set ?_ GE105.out) | exact HB.out)⟩
                (try clear HO_5)
                (try clear BK103)
                (try clear BK105)
                (try clear HB)
                generalize (((w11.setCell ⟨gb105, 0, none⟩ (.int .i64 ((rd_T39 l0_1 x11_1).f0))).setCell ⟨gb105, 1, none⟩ (.int .i64 ((rd_T39 l0_1 x11_1).f1))).setCell ⟨gb105, 2, none⟩ (.bool ((rd_T39 l0_1 x11_1).f2))) = w14 at n0_ n1_ n2_ n3_ ⊢
                have HO_5 := n0_
                have BK103 := n1_
                have BK105 := n2_
                have HB := n3_
                clear n0_ n1_ n2_ n3_
                have n0_ := Aside0.mk (Kd.R_drew HO_5.out)
                have n1_ := Aside0.mk (blk_drew BK103.out)
                have n2_ := Aside0.mk (blk_drew BK105.out)
                have n3_ := Aside0.mk (below_drew1 HB.out)
                clear HO_5
                clear BK103
                clear BK105
                clear HB
                have HO_5 := n0_
                have BK103 := n1_
                have BK105 := n2_
                have HB := n3_
                clear n0_ n1_ n2_ n3_
                refine start_ (n := 6) (S := fun w' => w'.cell? ⟨gb105, 0, none⟩ = some (.int .i64 ((rd_T39 l0_1 x11_1).f0)) ∧ w'.cell? ⟨gb105, 1, none⟩ = some (.int .i64 ((rd_T39 l0_1 x11_1).f1)) ∧ w'.cell? ⟨gb105, 2, none⟩ = some (.bool ((rd_T39 l0_1 x11_1).f2))) (ds := []) #[false, false, false, false, false, false] (by kernel_rfl) rfl rfl ⟨(blk_cell BK105.out 0).trans rfl, (blk_cell BK105.out 1).trans rfl, (blk_cell BK105.out 2).trans rfl⟩ (fun hHeld => ?_)
                generalize w14.drew = w15 at HO_5 BK103 BK105 HB hHeld ⊢
                refine pure_ (i := 1) (N := some 17) (v := ?_) (a' := ?_) #[false, true, false, false, false, false] rfl rfl (by kernel_rfl) (fun _ _ _ h => h) (Or.inl ⟨by rfl, ?_⟩) ?_ ?_
                rotate_left
                · intro w'
                  go_simp
                  with_reducible rfl
                rotate_left
                · simp only [Act.put, List.setIfInBounds_toArray, List.set_cons_zero, List.set_cons_succ, i64_w, i32_w]
                  rfl
                refine pure_ (i := 3) (N := some 19) (v := ?_) (a' := ?_) #[false, true, false, true, false, false] rfl rfl (by kernel_rfl) (fun _ _ _ h => h) (Or.inl ⟨by rfl, ?_⟩) ?_ ?_
                rotate_left
                · intro w'
                  go_simp
                  with_reducible rfl
                rotate_left
                · simp only [Act.put, List.setIfInBounds_toArray, List.set_cons_zero, List.set_cons_succ, i64_w, i32_w]
                  rfl
                refine take_ (i := 0) (N := some 16) (v := ?_) (a' := ?_) #[true, true, false, true, false, false] rfl rfl (by kernel_rfl) (fun _ _ _ h => h) (Or.inl ⟨by rfl, ?_⟩) hHeld ?_ ?_
                rotate_left
                · rintro w' ⟨s0, s1, s2⟩
                  go_simp
                  with_reducible rfl
                rotate_left
                · simp only [Act.put, List.setIfInBounds_toArray, List.set_cons_zero, List.set_cons_succ, i64_w, i32_w]
                  rfl
                refine take_ (i := 4) (N := some 20) (v := ?_) (a' := ?_) #[true, true, false, true, true, false] rfl rfl (by kernel_rfl) (fun _ _ _ h => h) (Or.inl ⟨by rfl, ?_⟩) hHeld ?_ ?_
                rotate_left
                · rintro w' ⟨s0, s1, s2⟩
                  go_simp
                  with_reducible rfl
                rotate_left
                · simp only [Act.put, List.setIfInBounds_toArray, List.set_cons_zero, List.set_cons_succ, i64_w, i32_w]
                  rfl
                refine one_ (i := 2) (N := some 18) #[true, true, true, true, true, false] rfl rfl (by kernel_rfl) (by decide) (fun K hK => ?_)
                refine goes_ Try.func74 (by kernel_rfl) rfl #[.agg #[.int .i64 ((rd_T39 l0_1 x11_1).f0), .int .i64 ((rd_T39 l0_1 x11_1).f1), .bool ((rd_T39 l0_1 x11_1).f2)], .int .i64 a1] (by rfl) rfl rfl (by (try simp only [List.map_toArray, List.map_cons, List.map_nil]); first | done | rfl | (simp only [List.length_drop, List.length_take]; rfl)) ?_
                with_reducible refine (feuds_crosses.calls ((rd_T39 l0_1 x11_1).f0) ((rd_T39 l0_1 x11_1).f1) ((rd_T39 l0_1 x11_1).f2) a1 t106 _ A8.out).mono ?_
                rintro e w16 ⟨rfl, hb⟩
                refine ⟨_, rfl, ?_⟩
                have n0_ := Aside0.mk (Kd.R_below (by (with_reducible repeat (first | apply Kd.R_alloc | apply Kd.R_drewN | apply Kd.R_drew)); exact HO_5.out) hb)
                have n1_ := Aside0.mk (blk_below (g := gb103) (o := .cells #[.int .i64 a0_0, .slice (some ad104) l0_1.length c0_1] 59 (0, 0)) (by (with_reducible repeat (first | refine blk_drewN ?_ _ | refine blk_drew ?_ | refine blk_alloc ?_ _)); exact BK103.out) hb)
                have n2_ := Aside0.mk (blk_below (g := gb105) (o := .cells #[.int .i64 ((rd_T39 l0_1 x11_1).f0), .int .i64 ((rd_T39 l0_1 x11_1).f1), .bool ((rd_T39 l0_1 x11_1).f2)] 39 (0, 0)) (by (with_reducible repeat (first | refine blk_drewN ?_ _ | refine blk_drew ?_ | refine blk_alloc ?_ _)); exact BK105.out) hb)
                have n3_ := Aside0.mk (below_step (by repeat (first | (with_reducible first | exact HB.out | apply below_alloc | apply pw_below_drewN | apply below_drew1 | refine below_set ?_ GE103.out | refine below_set ?_ GE105.out) | exact HB.out)) hb)
                clear HO_5
                clear BK103
                clear BK105
                clear HB
                have HO_5 := n0_
                have BK103 := n1_
                have BK105 := n2_
                have HB := n3_
                clear n0_ n1_ n2_ n3_
                (try clear hb)
                (try clear hb2)
                (try clear hk)
                (try clear hi)
                refine hK.out _ _ ⟨(blk_cell BK105.out 0).trans rfl, (blk_cell BK105.out 1).trans rfl, (blk_cell BK105.out 2).trans rfl⟩ (fun hHeld => ?_)
                clear hK K
                refine norm_ (a' := ?_) ?_ ?_
                rotate_left
                · show Act.put _ (some 18) _ = _
                  simp only [Act.put, List.setIfInBounds_toArray, List.set_cons_zero, List.set_cons_succ, i64_w, i32_w]
                  rfl
                refine pure_ (i := 5) (N := some 21) (v := ?_) (a' := ?_) #[true, true, true, true, true, true] rfl rfl (by kernel_rfl) (fun _ _ _ h => h) (Or.inl ⟨by rfl, ?_⟩) ?_ ?_
                rotate_left
                · intro w'
                  go_simp
                  with_reducible rfl
                rotate_left
                · simp only [Act.put, List.setIfInBounds_toArray, List.set_cons_zero, List.set_cons_succ, i64_w, i32_w]
                  rfl
                refine done_ (by kernel_rfl) ?_
                try go_wp2_with (first | ((with_reducible refine gate_builtin (b := .append) (xs := #[.tmp 22, .tmp 24]) rfl ?_); at_builtin; refine Kd.R_append (Kd.int .i64) (w0 := w) w.heap.size rfl (.tmp 22) (.tmp 24) 28 3 (.int .i64 0) 8 rfl Try.underlying28 info3 rfl (by decide) (by omega) u5 x5_1 x11_1 [.int .i64 x11_1] (fun _ => True) (fun _ => False) rfl rfl ?aP (fun _ hk => hk.elim) ?aF ?aO ?aB ?aS ?aL ?_; (case aP => exact rfl); (case aB => exact (by repeat (first | (with_reducible first | exact HB.out | apply below_alloc | apply pw_below_drewN | apply below_drew1 | refine below_set ?_ GE103.out | refine below_set ?_ GE105.out) | exact HB.out))); (case aF => exact (fun _ _ => trivial)); (case aO => exact (by (with_reducible repeat (first | apply Kd.R_alloc | apply Kd.R_drewN | apply Kd.R_drew)); exact HO_5.out)); (case aS => exact (below_size (by repeat (first | (with_reducible first | exact HB.out | apply below_alloc | apply pw_below_drewN | apply below_drew1 | refine below_set ?_ GE103.out | refine below_set ?_ GE105.out) | exact HB.out)))); (case aL => have := LMc10.out; omega); intro v108 w17 ho hb hg hat; rw [← Ny107.out] at ho; have n0_ := Aside0.mk (blk_grown (g := gb103) (o := .cells #[.int .i64 a0_0, .slice (some ad104) l0_1.length c0_1] 59 (0, 0)) (by (with_reducible repeat (first | refine blk_drewN ?_ _ | refine blk_drew ?_ | refine blk_alloc ?_ _)); exact BK103.out) hg (Kd.R_ne HO_5.out BK103.out (by decide))); have n1_ := Aside0.mk (blk_grown (g := gb105) (o := .cells #[.int .i64 ((rd_T39 l0_1 x11_1).f0), .int .i64 ((rd_T39 l0_1 x11_1).f1), .bool ((rd_T39 l0_1 x11_1).f2)] 39 (0, 0)) (by (with_reducible repeat (first | refine blk_drewN ?_ _ | refine blk_drew ?_ | refine blk_alloc ?_ _)); exact BK105.out) hg (Kd.R_ne HO_5.out BK105.out (by decide))); have n2_ := Aside0.mk (hb); have n3_ := Aside0.mk (ho); clear BK103; clear BK105; clear HB; clear HO_5; have BK103 := n0_; have BK105 := n1_; have HB := n2_; have HO109 := n3_; clear n0_ n1_ n2_ n3_; clear ho hb hg hat))
                go_roundg k1
                case measure => have := HK1.out; omega
                case rel => exact ⟨(y107), (wrap64 (x11_1 + 1)), (by first | rfl | (simp; done) | (simp [*]; done)), H', ⟨by have := HK1.out; omega⟩, ⟨by (with_reducible repeat (first | apply Kd.R_alloc | apply Kd.R_drewN | apply Kd.R_drew)); exact HO109.out⟩, ⟨by (with_reducible repeat (first | refine blk_drewN ?_ _ | refine blk_drew ?_ | refine blk_alloc ?_ _)); exact BK103.out⟩, ⟨by repeat (first | (with_reducible first | exact HB.out | apply below_alloc | apply pw_below_drewN | apply below_drew1 | refine below_set ?_ GE103.out | refine below_set ?_ GE105.out) | exact HB.out)⟩⟩
              · rw [if_neg c10] at H
                exact absurd H (by simp)
            · rw [if_neg c9] at H
              have c9b0 : (t106 != ((rd_T39 l0_1 x11_1).f2)) = false := by simpa using c9
              (try (have c9b1 : decide (t106 = ((rd_T39 l0_1 x11_1).f2)) = true := by simpa using c9))
              (try (have c9b2 : (t106 == ((rd_T39 l0_1 x11_1).f2)) = true := by simpa using c9))
              clear c9
              have H' := Aside0.mk H
              clear H
              have p104 : 0 ≤ (x11_1 : Int) := of_decide_eq_true (by first | (with_reducible assumption) | assumption)
              have q104 : x11_1 < (l0_1.length : Int) := of_decide_eq_true (by first | (with_reducible assumption) | assumption)
              obtain ⟨ad104, e104, hx104_0, hx104_1, hx104_2⟩ := at_T39 HR0_1.out x11_1 p104 q104
              cases e104
              replace hx104_0 := (HB.out.cell (World.block_lt_of_cell? w _ hx104_0)).trans hx104_0
              replace hx104_1 := (HB.out.cell (World.block_lt_of_cell? w _ hx104_1)).trans hx104_1
              replace hx104_2 := (HB.out.cell (World.block_lt_of_cell? w _ hx104_2)).trans hx104_2
              replace p104 := eq_true p104
              replace q104 := eq_true q104
              try go_wp2_with (first | ((with_reducible refine gate_dst (N := 7) rfl ?_); refine box_event ?hg (N := 7) ?hd (cs := #[.int .i64 0, .int .i64 0, .bool false]) (t := 39) ?hr ?_; (case hd => rfl); (case hg => rfl); (case hr => first | (go_simp; done) | (go_simp; rfl)); intro gb105 hg w18 hbox hb; have n0_ := Aside0.mk (Kd.R_below (by (with_reducible repeat (first | apply Kd.R_alloc | apply Kd.R_drewN | apply Kd.R_drew)); exact HO_5.out) hb); have n1_ := Aside0.mk (blk_below (g := gb103) (o := .cells #[.int .i64 a0_0, .slice (some ad104) l0_1.length c0_1] 59 (0, 0)) (by (with_reducible repeat (first | refine blk_drewN ?_ _ | refine blk_drew ?_ | refine blk_alloc ?_ _)); exact BK103.out) hb); have n2_ := Aside0.mk (below_step (by repeat (first | (with_reducible first | exact HB.out | apply below_alloc | apply pw_below_drewN | apply below_drew1 | refine below_set ?_ GE103.out) | exact HB.out)) hb); have n3_ := Aside0.mk (hbox); have n4_ := Aside0.mk ((by rw [hg]; exact (below_size (by repeat (first | (with_reducible first | exact HB.out | apply below_alloc | apply pw_below_drewN | apply below_drew1 | refine below_set ?_ GE103.out) | exact HB.out))) : w.heap.size ≤ gb105)); have n5_ := Aside0.mk ((by rw [hg]; exact (below_size (by repeat (first | (with_reducible first | exact HB.out | apply below_alloc | apply pw_below_drewN | apply below_drew1 | refine below_set ?_ GE103.out) | exact HB.out))) : w.heap.size ≤ gb105)); have n6_ := Aside0.mk ((by rw [hg]; exact Nat.ne_of_lt (blk_lt (g := gb103) (o := .cells #[.int .i64 a0_0, .slice (some ad104) l0_1.length c0_1] 59 (0, 0)) (by (with_reducible repeat (first | refine blk_drewN ?_ _ | refine blk_drew ?_ | refine blk_alloc ?_ _)); exact BK103.out)) : gb103 ≠ gb105)); have n7_ := Aside0.mk ((by rw [hg]; exact Nat.ne_of_gt (blk_lt (g := gb103) (o := .cells #[.int .i64 a0_0, .slice (some ad104) l0_1.length c0_1] 59 (0, 0)) (by (with_reducible repeat (first | refine blk_drewN ?_ _ | refine blk_drew ?_ | refine blk_alloc ?_ _)); exact BK103.out)) : gb105 ≠ gb103)); clear HO_5; clear BK103; clear HB; have HO_5 := n0_; have BK103 := n1_; have HB := n2_; have BK105 := n3_; have GW105 := n4_; have GE105 := n5_; have NB103_105 := n6_; have NB105_103 := n7_; clear n0_ n1_ n2_ n3_ n4_ n5_ n6_ n7_; clear hb hbox hg; have hnb19 := NB105_103.out; have hnc19 := NB103_105.out; have hcz20_0 : w18.cell? ⟨gb105, 0, none⟩ = some (.int .i64 0) := (blk_cell BK105.out 0).trans rfl; have hcz20_1 : w18.cell? ⟨gb105, 1, none⟩ = some (.int .i64 0) := (blk_cell BK105.out 1).trans rfl; have hcz20_2 : w18.cell? ⟨gb105, 2, none⟩ = some (.bool false) := (blk_cell BK105.out 2).trans rfl; have hfz20_0 := blk_frozen BK105.out 0; have hfz20_1 := blk_frozen BK105.out 1; have hfz20_2 := blk_frozen BK105.out 2))
              have n0_ : Aside0 (Kd.R (Kd.int .i64) 3 (((w18.setCell ⟨gb105, 0, none⟩ (.int .i64 ((rd_T39 l0_1 x11_1).f0))).setCell ⟨gb105, 1, none⟩ (.int .i64 ((rd_T39 l0_1 x11_1).f1))).setCell ⟨gb105, 2, none⟩ (.bool ((rd_T39 l0_1 x11_1).f2))) w.heap.size (fun _ => True) u5 x5_1) := ⟨by (with_reducible repeat (first | apply Kd.R_alloc | apply Kd.R_drewN | apply Kd.R_drew)); exact Kd.R_mono (Kd.R_far (p := ⟨gb105, 2, none⟩) (Kd.R_far (p := ⟨gb105, 1, none⟩) (Kd.R_far (p := ⟨gb105, 0, none⟩) (Kd.R_types HO_5.out BK105.out (by decide)) (fun _ hk => hk.2) (.int .i64 ((rd_T39 l0_1 x11_1).f0))) (fun _ hk => hk.2) (.int .i64 ((rd_T39 l0_1 x11_1).f1))) (fun _ hk => hk.2) (.bool ((rd_T39 l0_1 x11_1).f2))) (fun _ hk => trivial)⟩
              have n1_ : Aside0 ((((w18.setCell ⟨gb105, 0, none⟩ (.int .i64 ((rd_T39 l0_1 x11_1).f0))).setCell ⟨gb105, 1, none⟩ (.int .i64 ((rd_T39 l0_1 x11_1).f1))).setCell ⟨gb105, 2, none⟩ (.bool ((rd_T39 l0_1 x11_1).f2))).heap[gb103]? = some (.cells #[.int .i64 a0_0, .slice (some ad104) l0_1.length c0_1] 59 (0, 0))) := ⟨by (with_reducible repeat (first | refine blk_drewN ?_ _ | refine blk_drew ?_ | refine blk_alloc ?_ _)); refine blk_far ?_ NB103_105.out _; (with_reducible repeat (first | refine blk_drewN ?_ _ | refine blk_drew ?_ | refine blk_alloc ?_ _)); refine blk_far ?_ NB103_105.out _; (with_reducible repeat (first | refine blk_drewN ?_ _ | refine blk_drew ?_ | refine blk_alloc ?_ _)); refine blk_far ?_ NB103_105.out _; (with_reducible repeat (first | refine blk_drewN ?_ _ | refine blk_drew ?_ | refine blk_alloc ?_ _)); exact BK103.out⟩
              have n2_ : Aside0 ((((w18.setCell ⟨gb105, 0, none⟩ (.int .i64 ((rd_T39 l0_1 x11_1).f0))).setCell ⟨gb105, 1, none⟩ (.int .i64 ((rd_T39 l0_1 x11_1).f1))).setCell ⟨gb105, 2, none⟩ (.bool ((rd_T39 l0_1 x11_1).f2))).heap[gb105]? = some (.cells #[.int .i64 ((rd_T39 l0_1 x11_1).f0), .int .i64 ((rd_T39 l0_1 x11_1).f1), .bool ((rd_T39 l0_1 x11_1).f2)] 39 (0, 0))) := ⟨by (with_reducible repeat (first | refine blk_drewN ?_ _ | refine blk_drew ?_ | refine blk_alloc ?_ _)); refine blk_put (cs := #[.int .i64 ((rd_T39 l0_1 x11_1).f0), .int .i64 ((rd_T39 l0_1 x11_1).f1), .bool false]) ?_ 2 _ rfl; (with_reducible repeat (first | refine blk_drewN ?_ _ | refine blk_drew ?_ | refine blk_alloc ?_ _)); refine blk_put (cs := #[.int .i64 ((rd_T39 l0_1 x11_1).f0), .int .i64 0, .bool false]) ?_ 1 _ rfl; (with_reducible repeat (first | refine blk_drewN ?_ _ | refine blk_drew ?_ | refine blk_alloc ?_ _)); refine blk_put (cs := #[.int .i64 0, .int .i64 0, .bool false]) ?_ 0 _ rfl; (with_reducible repeat (first | refine blk_drewN ?_ _ | refine blk_drew ?_ | refine blk_alloc ?_ _)); exact BK105.out⟩
              have n3_ : Aside0 (Below w.heap.size w (((w18.setCell ⟨gb105, 0, none⟩ (.int .i64 ((rd_T39 l0_1 x11_1).f0))).setCell ⟨gb105, 1, none⟩ (.int .i64 ((rd_T39 l0_1 x11_1).f1))).setCell ⟨gb105, 2, none⟩ (.bool ((rd_T39 l0_1 x11_1).f2)))) := ⟨by repeat (first | (with_reducible first | exact HB.out | apply below_alloc | apply pw_below_drewN | apply below_drew1 | refine below_set ?_ GE103.out | refine below_set ?_ GE105.out) | exact HB.out)⟩
              (try clear HO_5)
              (try clear BK103)
              (try clear BK105)
              (try clear HB)
              generalize (((w18.setCell ⟨gb105, 0, none⟩ (.int .i64 ((rd_T39 l0_1 x11_1).f0))).setCell ⟨gb105, 1, none⟩ (.int .i64 ((rd_T39 l0_1 x11_1).f1))).setCell ⟨gb105, 2, none⟩ (.bool ((rd_T39 l0_1 x11_1).f2))) = w21 at n0_ n1_ n2_ n3_ ⊢
              have HO_5 := n0_
              have BK103 := n1_
              have BK105 := n2_
              have HB := n3_
              clear n0_ n1_ n2_ n3_
              have n0_ := Aside0.mk (Kd.R_drew HO_5.out)
              have n1_ := Aside0.mk (blk_drew BK103.out)
              have n2_ := Aside0.mk (blk_drew BK105.out)
              have n3_ := Aside0.mk (below_drew1 HB.out)
              clear HO_5
              clear BK103
              clear BK105
              clear HB
              have HO_5 := n0_
              have BK103 := n1_
              have BK105 := n2_
              have HB := n3_
              clear n0_ n1_ n2_ n3_
              refine start_ (n := 6) (S := fun w' => w'.cell? ⟨gb105, 0, none⟩ = some (.int .i64 ((rd_T39 l0_1 x11_1).f0)) ∧ w'.cell? ⟨gb105, 1, none⟩ = some (.int .i64 ((rd_T39 l0_1 x11_1).f1)) ∧ w'.cell? ⟨gb105, 2, none⟩ = some (.bool ((rd_T39 l0_1 x11_1).f2))) (ds := []) #[false, false, false, false, false, false] (by kernel_rfl) rfl rfl ⟨(blk_cell BK105.out 0).trans rfl, (blk_cell BK105.out 1).trans rfl, (blk_cell BK105.out 2).trans rfl⟩ (fun hHeld => ?_)
              generalize w21.drew = w22 at HO_5 BK103 BK105 HB hHeld ⊢
              refine pure_ (i := 1) (N := some 17) (v := ?_) (a' := ?_) #[false, true, false, false, false, false] rfl rfl (by kernel_rfl) (fun _ _ _ h => h) (Or.inl ⟨by rfl, ?_⟩) ?_ ?_
              rotate_left
              · intro w'
                go_simp
                with_reducible rfl
              rotate_left
              · simp only [Act.put, List.setIfInBounds_toArray, List.set_cons_zero, List.set_cons_succ, i64_w, i32_w]
                rfl
              refine pure_ (i := 3) (N := some 19) (v := ?_) (a' := ?_) #[false, true, false, true, false, false] rfl rfl (by kernel_rfl) (fun _ _ _ h => h) (Or.inl ⟨by rfl, ?_⟩) ?_ ?_
              rotate_left
              · intro w'
                go_simp
                with_reducible rfl
              rotate_left
              · simp only [Act.put, List.setIfInBounds_toArray, List.set_cons_zero, List.set_cons_succ, i64_w, i32_w]
                rfl
              refine take_ (i := 0) (N := some 16) (v := ?_) (a' := ?_) #[true, true, false, true, false, false] rfl rfl (by kernel_rfl) (fun _ _ _ h => h) (Or.inl ⟨by rfl, ?_⟩) hHeld ?_ ?_
              rotate_left
              · rintro w' ⟨s0, s1, s2⟩
                go_simp
                with_reducible rfl
              rotate_left
              · simp only [Act.put, List.setIfInBounds_toArray, List.set_cons_zero, List.set_cons_succ, i64_w, i32_w]
                rfl
              refine take_ (i := 4) (N := some 20) (v := ?_) (a' := ?_) #[true, true, false, true, true, false] rfl rfl (by kernel_rfl) (fun _ _ _ h => h) (Or.inl ⟨by rfl, ?_⟩) hHeld ?_ ?_
              rotate_left
              · rintro w' ⟨s0, s1, s2⟩
                go_simp
                with_reducible rfl
              rotate_left
              · simp only [Act.put, List.setIfInBounds_toArray, List.set_cons_zero, List.set_cons_succ, i64_w, i32_w]
                rfl
              refine one_ (i := 2) (N := some 18) #[true, true, true, true, true, false] rfl rfl (by kernel_rfl) (by decide) (fun K hK => ?_)
              refine goes_ Try.func74 (by kernel_rfl) rfl #[.agg #[.int .i64 ((rd_T39 l0_1 x11_1).f0), .int .i64 ((rd_T39 l0_1 x11_1).f1), .bool ((rd_T39 l0_1 x11_1).f2)], .int .i64 a1] (by rfl) rfl rfl (by (try simp only [List.map_toArray, List.map_cons, List.map_nil]); first | done | rfl | (simp only [List.length_drop, List.length_take]; rfl)) ?_
              with_reducible refine (feuds_crosses.calls ((rd_T39 l0_1 x11_1).f0) ((rd_T39 l0_1 x11_1).f1) ((rd_T39 l0_1 x11_1).f2) a1 t106 _ A8.out).mono ?_
              rintro e w23 ⟨rfl, hb⟩
              refine ⟨_, rfl, ?_⟩
              have n0_ := Aside0.mk (Kd.R_below (by (with_reducible repeat (first | apply Kd.R_alloc | apply Kd.R_drewN | apply Kd.R_drew)); exact HO_5.out) hb)
              have n1_ := Aside0.mk (blk_below (g := gb103) (o := .cells #[.int .i64 a0_0, .slice (some ad104) l0_1.length c0_1] 59 (0, 0)) (by (with_reducible repeat (first | refine blk_drewN ?_ _ | refine blk_drew ?_ | refine blk_alloc ?_ _)); exact BK103.out) hb)
              have n2_ := Aside0.mk (blk_below (g := gb105) (o := .cells #[.int .i64 ((rd_T39 l0_1 x11_1).f0), .int .i64 ((rd_T39 l0_1 x11_1).f1), .bool ((rd_T39 l0_1 x11_1).f2)] 39 (0, 0)) (by (with_reducible repeat (first | refine blk_drewN ?_ _ | refine blk_drew ?_ | refine blk_alloc ?_ _)); exact BK105.out) hb)
              have n3_ := Aside0.mk (below_step (by repeat (first | (with_reducible first | exact HB.out | apply below_alloc | apply pw_below_drewN | apply below_drew1 | refine below_set ?_ GE103.out | refine below_set ?_ GE105.out) | exact HB.out)) hb)
              clear HO_5
              clear BK103
              clear BK105
              clear HB
              have HO_5 := n0_
              have BK103 := n1_
              have BK105 := n2_
              have HB := n3_
              clear n0_ n1_ n2_ n3_
              (try clear hb)
              (try clear hb2)
              (try clear hk)
              (try clear hi)
              refine hK.out _ _ ⟨(blk_cell BK105.out 0).trans rfl, (blk_cell BK105.out 1).trans rfl, (blk_cell BK105.out 2).trans rfl⟩ (fun hHeld => ?_)
              clear hK K
              refine norm_ (a' := ?_) ?_ ?_
              rotate_left
              · show Act.put _ (some 18) _ = _
                simp only [Act.put, List.setIfInBounds_toArray, List.set_cons_zero, List.set_cons_succ, i64_w, i32_w]
                rfl
              refine pure_ (i := 5) (N := some 21) (v := ?_) (a' := ?_) #[true, true, true, true, true, true] rfl rfl (by kernel_rfl) (fun _ _ _ h => h) (Or.inl ⟨by rfl, ?_⟩) ?_ ?_
              rotate_left
              · intro w'
                go_simp
                with_reducible rfl
              rotate_left
              · simp only [Act.put, List.setIfInBounds_toArray, List.set_cons_zero, List.set_cons_succ, i64_w, i32_w]
                rfl
              refine done_ (by kernel_rfl) ?_
              try go_wp2
              go_roundg k1
              case measure => have := HK1.out; omega
              case rel => exact ⟨(x5_1), (wrap64 (x11_1 + 1)), (by first | rfl | (simp; done) | (simp [*]; done)), H', ⟨by have := HK1.out; omega⟩, ⟨by (with_reducible repeat (first | apply Kd.R_alloc | apply Kd.R_drewN | apply Kd.R_drew)); exact HO_5.out⟩, ⟨by (with_reducible repeat (first | refine blk_drewN ?_ _ | refine blk_drew ?_ | refine blk_alloc ?_ _)); exact BK103.out⟩, ⟨by repeat (first | (with_reducible first | exact HB.out | apply below_alloc | apply pw_below_drewN | apply below_drew1 | refine below_set ?_ GE103.out | refine below_set ?_ GE105.out) | exact HB.out)⟩⟩
          · rw [if_neg c7] at H
            exact absurd H (by simp)
        · rw [if_neg c6] at H
          exact absurd H (by simp)
      · rw [if_neg c5] at H
        have c5b0 : decide (x11_1 < (l0_1.length : Int)) = false := decide_eq_false c5
        clear c5
        obtain rfl := Option.some.inj H
        go_wp2
        go_ret
        exact ⟨_, by first | rfl | (simp [errW_none, errW_some] <;> rfl) | (simp [*, errW_none, errW_some] <;> rfl), by (with_reducible repeat (first | apply Kd.R_alloc | apply Kd.R_drewN | apply Kd.R_drew)); exact HO_5.out, by repeat (first | (with_reducible first | exact HB.out | apply below_alloc | apply pw_below_drewN | apply below_drew1 | refine below_set ?_ GE103.out) | exact HB.out)⟩

/-! ### feuds_odd: function 50 -/
def feuds_odd.f (a0 : Int) : Option (Bool) := some ((Int.tmod a0 2) == 1)
set_option maxHeartbeats 8000000 in
set_option maxRecDepth 100000 in
theorem feuds_odd.calls (a0 : Int) (r : Bool) (w : World) (h : feuds_odd.f a0 = some r) :
    Calls Try.prog 50 #[.int .i64 a0] w fun e w' => e = .returned (.bool r) ∧ Drawn0 w w' := by
  have H : (some ((Int.tmod a0 2) == 1)) = some r := h
  clear h
  obtain rfl := Option.some.inj H
  go_enter Try.func50, Try.ntmps50
  go_wp2
  go_ret
  exact ⟨by first | rfl | (simp; done) | (simp [*]; done), by repeat (first | exact Drawn0.refl _ | apply Drawn0.step)⟩

end
end Go.Proofs.Ytaegldcifhgnmaa.A

/- Which ties are not as calm with a set asks, plain. -/
namespace Go.Proofs.Ytaegldcifhgnmaa.A
open Go.RowKit Go.Proofs.YtaegldcifhgnmaaW.PrintWords Go.Proofs.YtaegldcifhgnmaaW.PrintMore
/-! ### bits -/
theorem tb_big {a i j : Nat} (h : a < 2 ^ i) (hij : i ≤ j) : a.testBit j = false :=
  Nat.testBit_lt_two_pow (Nat.lt_of_lt_of_le h (Nat.pow_le_pow_right (by decide) hij))
theorem wrap64_nat (n : Int) (h0 : 0 ≤ n) (h1 : n < 2 ^ 62) : IntKind.i64.wrap n = n := by
  rw [IntKind.wrap_i64]; omega
theorem or64 (a b : Nat) (ha : a < 2 ^ 62) (hb : b < 2 ^ 62) : bits .or .i64 (a : Int) (b : Int) = ((a ||| b : Nat) : Int) :=
  (bits_nat .i64 62 (by decide) wrap64_nat a b ha hb).2
theorem and64 (a b : Nat) (ha : a < 2 ^ 62) (hb : b < 2 ^ 62) : bits .and .i64 (a : Int) (b : Int) = ((a &&& b : Nat) : Int) :=
  (bits_nat .i64 62 (by decide) wrap64_nat a b ha hb).1
theorem tb_two (i j : Nat) : (2 ^ i).testBit j = (j == i) := by
  rw [Nat.testBit_two_pow]
  by_cases h : i = j
  · simp [h]
  · simp [h, Ne.symm h]
theorem two_lt {i : Nat} (h : i < 62) : 2 ^ i < 2 ^ 62 := Nat.pow_lt_pow_right (by decide) h
theorem or_lt {a b k : Nat} (ha : a < 2 ^ k) (hb : b < 2 ^ k) : a ||| b < 2 ^ k := Nat.or_lt_two_pow ha hb
theorem lt62 {a k : Nat} (h : a < 2 ^ k) (hk : k ≤ 62) : a < 2 ^ 62 := Nat.lt_of_lt_of_le h (Nat.pow_le_pow_right (by decide) hk)
theorem shr_nat (y k : Nat) (hk : k ≤ 60) : shr .i64 (y : Int) (k : Int) = ((y / 2 ^ k : Nat) : Int) := by
  unfold shr
  have : min ((k : Int)).toNat IntKind.i64.bits = k := by
    have : IntKind.i64.bits = 64 := rfl
    omega
  rw [this]
  simp
theorem bit_and (y k : Nat) (hk : k ≤ 60) (hy : y < 2 ^ 62) : bits .and .i64 (shr .i64 (y : Int) (k : Int)) 1 = if y.testBit k = true then 1 else 0 := by
  rw [shr_nat y k hk]
  have h1 : y / 2 ^ k < 2 ^ 62 := Nat.lt_of_le_of_lt (Nat.div_le_self _ _) hy
  have := and64 (y / 2 ^ k) 1 h1 (by decide)
  rw [show ((1 : Nat) : Int) = 1 from rfl] at this
  rw [this, Nat.and_one_is_mod, Nat.testBit_eq_decide_div_mod_eq]
  by_cases q : y / 2 ^ k % 2 = 1
  · rw [if_pos (by simpa using q), q]; rfl
  · rw [if_neg (by simpa using q)]
    have : y / 2 ^ k % 2 = 0 := by omega
    rw [this]; rfl

/-! ### wrong -/
/-- Is just one drover of a tie in a set? -/
def crossB (t : S39) (s : Nat) : Bool := s.testBit t.f0.toNat != s.testBit t.f1.toNat
def wrB (t : S39) (s : Nat) : Bool := crossB t s != t.f2
/-- The indices of the first k ties that are not as calm with a set asks. -/
def wrongK (l : List S39) (s : Nat) (k : Nat) : List Int := ((List.range k).filter fun i => wrB (l.getD i z39) s).map fun i : Nat => (i : Int)
def wrongF (l : List S39) (s : Nat) : List Int := wrongK l s l.length
theorem wrongK_succ (l : List S39) (s k : Nat) : wrongK l s (k + 1) = if wrB (l.getD k z39) s = true then wrongK l s k ++ [(k : Int)] else wrongK l s k := by
  unfold wrongK
  rw [List.range_succ, List.filter_append]
  cases h : wrB (l.getD k z39) s
  · rw [List.filter_cons, h]; simp
  · rw [List.filter_cons, h]; simp
theorem wrongK_len (l : List S39) (s k : Nat) : (wrongK l s k).length ≤ k := by
  unfold wrongK
  rw [List.length_map]
  have := List.length_filter_le (fun i => wrB (l.getD i z39) s) (List.range k)
  rwa [List.length_range] at this

/-- Drovers of ties are few. -/
def smallT (l : List S39) : Prop := ∀ t ∈ l, 0 ≤ t.f0 ∧ t.f0 < 60 ∧ 0 ≤ t.f1 ∧ t.f1 < 60
theorem crosses_f {t : S39} {s : Nat} (h : 0 ≤ t.f0 ∧ t.f0 < 60 ∧ 0 ≤ t.f1 ∧ t.f1 < 60) (hs : s < 2 ^ 62) : feuds_crosses.f t.f0 t.f1 t.f2 s = some (crossB t s) := by
  unfold feuds_crosses.f
  rw [if_pos h.1, if_pos h.2.2.1]
  have e0 : t.f0 = (t.f0.toNat : Int) := by omega
  have e1 : t.f1 = (t.f1.toNat : Int) := by omega
  have b0 := bit_and s t.f0.toNat (by omega) hs
  have b1 := bit_and s t.f1.toNat (by omega) hs
  rw [← e0] at b0
  rw [← e1] at b1
  rw [b0, b1]
  unfold crossB
  cases s.testBit t.f0.toNat <;> cases s.testBit t.f1.toNat <;> rfl

theorem wrong_ev (n : Int) (l : List S39) (hl : smallT l) (hn : l.length ≤ 1000) (s : Nat) (hs : s < 2 ^ 62) : feuds_net_wrong.f (l.length + 1) n l s = some (wrongF l s) := by
  have key : ∀ (d k i : Nat), i + d = l.length → d < k → feuds_net_wrong.l0 k s (wrongK l s i) l (l.length : Int) (i : Int) = some (wrongF l s) := by
    intro d
    induction d with
    | zero =>
      intro k i hi hk
      obtain ⟨k, rfl⟩ : ∃ m, k = m + 1 := ⟨k - 1, by omega⟩
      simp only [feuds_net_wrong.l0]
      rw [if_neg (by omega)]
      have : i = l.length := by omega
      rw [this]; rfl
    | succ d ih =>
      intro k i hi hk
      obtain ⟨k, rfl⟩ : ∃ m, k = m + 1 := ⟨k - 1, by omega⟩
      simp only [feuds_net_wrong.l0]
      have hrd : rd_T39 l (i : Int) = l.getD i z39 := by simp [rd_T39]
      rw [if_pos (by omega), if_pos (by omega), if_pos (by omega), hrd, crosses_f (hl _ (getD_mem z39 (by omega))) hs]
      simp only [Option.bind_some]
      have hw : wrap64 ((i : Int) + 1) = ((i + 1 : Nat) : Int) := by rw [wrap64_id] <;> omega
      have hlen := wrongK_len l s i
      have hn2 := ih k (i + 1) (by omega) (by omega)
      rw [wrongK_succ] at hn2
      change (if wrB (l.getD i z39) s = true then _ else _) = _
      by_cases hb : wrB (l.getD i z39) s = true
      · rw [if_pos hb] at hn2
        rw [if_pos hb, if_pos (by omega), hw]
        exact hn2
      · rw [if_neg hb] at hn2
        rw [if_neg hb, hw]
        exact hn2
  exact key l.length (l.length + 1) 0 (by omega) (by omega)

theorem okTies_parts {n : Int} {l : List S39} (h : okTies n l = true) {i : Nat} (hi : i < l.length) : okT n (l.getD i z39) = true ∧ ∀ j, j < i → pairT (l.getD j z39) ≠ pairT (l.getD i z39) := by
  unfold okTies at h
  have := List.all_eq_true.1 h i (List.mem_range.2 hi)
  unfold okAt at this
  rw [Bool.and_eq_true] at this
  refine ⟨this.1, fun j hj e => ?_⟩
  have h2 := this.2
  rw [Bool.not_eq_true', List.contains_eq_mem, decide_eq_false_iff_not] at h2
  apply h2
  rw [← e]
  refine List.mem_map.2 ⟨l.getD j z39, ?_, rfl⟩
  rw [List.mem_iff_getElem]
  exact ⟨j, by rw [List.length_take]; omega, by rw [List.getElem_take, List.getD_eq_getElem?_getD, List.getElem?_eq_getElem (by omega)]; rfl⟩
theorem tiesE_parts {n : Int} {l : List S39} (h : tiesE n l = 0) : (1 ≤ n ∧ n ≤ 8) ∧ l.length ≤ 20 ∧ okTies n l = true := by
  unfold tiesE at h
  by_cases h1 : n < 1 ∨ 8 < n
  · rw [if_pos h1] at h; cases h
  · rw [if_neg h1] at h
    by_cases h2 : 20 < l.length
    · rw [if_pos h2] at h; cases h
    · rw [if_neg h2] at h
      by_cases h3 : okTies n l = true
      · exact ⟨by omega, by omega, h3⟩
      · rw [if_neg h3] at h; cases h
theorem okT_parts {n : Int} {t : S39} (h : okT n t = true) : 0 ≤ t.f0 ∧ t.f0 < t.f1 ∧ t.f1 < n := by
  unfold okT at h
  simp at h
  omega
theorem tiesE_small {n : Int} {l : List S39} (h : tiesE n l = 0) : smallT l := by
  obtain ⟨hn, hl, ho⟩ := tiesE_parts h
  intro t ht
  obtain ⟨i, hi, rfl⟩ := List.mem_iff_getElem.1 ht
  have := okT_parts (okTies_parts ho hi).1
  rw [List.getD_eq_getElem?_getD, List.getElem?_eq_getElem hi] at this
  simp only [Option.getD_some] at this
  omega
theorem wrong_calls (n : Int) (A : Option Addr) (c : Nat) (l : List S39) (s : Nat) (w : World) (hr : Kd.C k39 w A l.length l) (hc : l.length ≤ c) (hl : smallT l) (hn : l.length ≤ 1000) (hs : s < 2 ^ 62) :
    Calls Try.prog 47 #[.agg #[.int .i64 n, .slice A l.length c], .int .i64 s] w fun e w' => ∃ v : Value, e = .returned v ∧ Kd.R (Kd.int .i64) 3 w' w.heap.size (fun _ => True) v (wrongF l s) ∧ Below w.heap.size w w' :=
  feuds_net_wrong.calls (l.length + 1) n A c l s (wrongF l s) w hr hc (wrong_ev n l hl hn s hs)
end Go.Proofs.Ytaegldcifhgnmaa.A

/- Sides: what it returns. -/
namespace Go.Proofs.Ytaegldcifhgnmaa.A
open Go.RowKit Go.Proofs.YtaegldcifhgnmaaW.PrintWords Go.Proofs.YtaegldcifhgnmaaW.PrintMore
theorem find_hit {p : Nat → Bool} {N i : Nat} (hi : i < N) (h : p i = true) (hno : ∀ j, j < i → p j = false) : (List.range N).find? p = some i := by
  rw [List.find?_range_eq_some]
  exact ⟨h, List.mem_range.2 hi, fun j hj => by rw [hno j hj]; rfl⟩
theorem find_miss {p : Nat → Bool} {N : Nat} (hno : ∀ j, j < N → p j = false) : (List.range N).find? p = none := by
  rw [List.find?_range_eq_none]
  exact fun j hj => by rw [hno j hj]; rfl

/-- The first set with which the ties are calm. -/
def sidesN (m : Nat) (l : List S39) : Option Nat := (List.range (2 ^ m)).find? fun s => (wrongF l s).isEmpty
def sidesF (n : Int) (l : List S39) : Int × Int := if tiesE n l = 0 then (match sidesN n.toNat l with | some s => ((s : Int), 0) | none => (0, 10)) else (0, tiesE n l)

theorem read_good {n : Int} {A : Option Addr} {c : Nat} {l : List S39} {w : World} (hr : Kd.C k39 w A l.length l) (h : tiesE n l = 0) :
    Calls Try.prog 46 #[.int .i64 n, .slice A l.length c] w fun e w' => e = .returned (.tuple #[.agg #[.int .i64 n, .slice A l.length c], .int .i64 0]) ∧ Below w.heap.size w w' :=
  (read_any n A c l w hr).mono fun _ _ ⟨h1, h2⟩ => ⟨(h1.elim (fun h => h.2) fun h' => absurd h h'.1), h2⟩
theorem read_err {n : Int} {A : Option Addr} {c : Nat} {l : List S39} {w : World} (hr : Kd.C k39 w A l.length l) {E : Int} (h : tiesE n l = E) (h0 : E ≠ 0) :
    Calls Try.prog 46 #[.int .i64 n, .slice A l.length c] w fun e w' => e = .returned (.tuple #[.agg #[.int .i64 0, .slice none 0 0], .int .i64 E]) ∧ Below w.heap.size w w' :=
  (read_any n A c l w hr).mono fun _ _ ⟨h1, h2⟩ => ⟨(h1.elim (fun h' => absurd (h'.1.symm.trans h).symm h0) fun h' => by rw [← h]; exact h'.2), h2⟩

theorem pow_cast (m : Nat) : ((2 : Int) ^ m) = ((2 ^ m : Nat) : Int) := by simp
theorem pow8 {m : Nat} (h : m ≤ 8) : 2 ^ m ≤ 256 := Nat.pow_le_pow_right (show 0 < 2 by decide) h

set_option maxRecDepth 100000 in
set_option maxHeartbeats 800000 in
theorem Sides_err (n : Int) (A : Option Addr) (c : Nat) (l : List S39) (w : World) (hr : Kd.C k39 w A l.length l) (E : Int) (h : tiesE n l = E) (h0 : E ≠ 0) :
    Calls Try.prog 18 #[.int .i64 n, .slice A l.length c] w fun e w' => e = .returned (.tuple #[.int .i64 0, .int .i64 E]) ∧ Below w.heap.size w w' := by
  have HR := Aside0.mk hr
  have HE := Aside0.mk h
  have hg : (E != 0) = true := by rw [bne_iff_ne]; exact h0
  have H0 := Aside0.mk h0
  clear hr h h0
  go_enter Try.func18, Try.ntmps18
  go_wp2_with (go_at_call 46; refine (read_err HR.out HE.out H0.out).mono ?_; rintro e w' ⟨rfl, hb'⟩; have HB := Aside0.mk hb'; clear hb')
  go_ret2
  exact ⟨rfl, below_alloc HB.out _⟩

set_option maxRecDepth 100000 in
set_option maxHeartbeats 800000 in
theorem Sides_good (m : Nat) (A : Option Addr) (c : Nat) (l : List S39) (w : World) (hr : Kd.C k39 w A l.length l) (hc : l.length ≤ c) (h : tiesE m l = 0) (Z : Int × Int) (hZ : sidesF m l = Z) :
    Calls Try.prog 18 #[.int .i64 m, .slice A l.length c] w fun e w' => e = .returned (.tuple #[.int .i64 Z.1, .int .i64 Z.2]) ∧ Below w.heap.size w w' := by
  have hm : m ≤ 8 := by have := (tiesE_parts h).1; omega
  have HR := Aside0.mk hr
  have HC := Aside0.mk hc
  have HS := Aside0.mk (tiesE_small h)
  have HL : Aside0 (l.length ≤ 1000) := ⟨by have := (tiesE_parts h).2.1; omega⟩
  have HZ : Aside0 ((match sidesN m l with | some s => ((s : Int), (0 : Int)) | none => (0, 10)) = Z) := ⟨by rw [← hZ]; unfold sidesF; rw [if_pos h, Int.toNat_natCast]⟩
  have HE := Aside0.mk h
  clear hr h hZ hc
  go_enter Try.func18, Try.ntmps18
  go_wp2_with (go_at_call 46; refine (read_good HR.out HE.out).mono ?_; rintro e w1 ⟨rfl, hb1⟩; have HB1 := Aside0.mk hb1; clear hb1)
  have hz := HB1.out.size
  have HS1 := Aside0.mk (And.intro (heap_alloc_new w1 (.cells #[.int .i64 (m : Int), .slice A l.length c] 59)) (And.intro (below_alloc HB1.out (.cells #[.int .i64 (m : Int), .slice A l.length c] 59)) hz))
  clear HB1 hz
  obtain ⟨N, hN⟩ : ∃ N : Nat, N = 2 ^ m := ⟨_, rfl⟩
  have hN8 : N ≤ 256 := by rw [hN]; exact pow8 hm
  have hw : wrap64 (2 ^ m) = (N : Int) := by rw [wrap64_two (by omega), pow_cast, hN]
  have HZN : Aside0 ((match (List.range N).find? fun s => (wrongF l s).isEmpty with | some s => ((s : Int), (0 : Int)) | none => (0, 10)) = Z) := ⟨by rw [hN]; exact HZ.out⟩
  rw [hw]
  clear hw hN HZ
  go_loopg [8, 20] N (fun gg _ v20 wr => ∃ i : Nat, i ≤ N ∧ N - i ≤ gg ∧ v20 = .int .i64 i ∧ Aside0 (wr.heap[w1.heap.size]? = some (.cells #[.int .i64 (m : Int), .slice A l.length c] 59 (0, 0)) ∧ Below w.heap.size w wr) ∧ Aside0 (∀ j, j < i → (wrongF l j).isEmpty = false))
  case atStart => exact ⟨0, Nat.zero_le _, by omega, rfl, ⟨HS1.out.1, HS1.out.2.1⟩, ⟨fun j hj => absurd hj (Nat.not_lt_zero _)⟩⟩
  case round =>
    obtain ⟨i, hi, hgg, rfl, HI, AF⟩ := hrel
    obtain ⟨r0, r1, _, _⟩ := cells2 HI.out.1
    by_cases hlt : i < N
    · have hltz : (i : Int) < (N : Int) := by omega
      by_cases hq : (wrongF l i).length = 0
      · have hq0 : ((((wrongF l i).length : Nat) : Int) == 0) = true := by rw [beq_iff_eq]; omega
        have HQ : Aside0 ((wrongF l i).isEmpty = true) := ⟨by rw [List.isEmpty_iff_length_eq_zero]; exact hq⟩
        clear hq
        go_wp2_with (go_at_call 47; refine (wrong_calls m A c l i _ (Kd.C_below HR.out HI.out.2) HC.out HS.out HL.out (by omega)).mono ?_; rintro e w2 ⟨v2, rfl, hr2, hb2⟩; obtain ⟨A2, c2, rfl, hc2, _⟩ := Kd.R_reads hr2; have HB2 := Aside0.mk hb2; clear hr2 hb2 hc2)
        go_ret2
        refine ⟨?_, below_then HI.out.2 HI.out.2.size HB2.out⟩
        rw [← HZN.out, find_hit (p := fun s => (wrongF l s).isEmpty) hlt HQ.out (fun j hj => AF.out j hj)]; rfl
      · have hq0 : ((((wrongF l i).length : Nat) : Int) == 0) = false := by rw [beq_eq_false_iff_ne]; omega
        have HQ : Aside0 ((wrongF l i).isEmpty = false) := ⟨by rw [← Bool.not_eq_true, List.isEmpty_iff_length_eq_zero]; exact hq⟩
        clear hq
        go_wp2_with (go_at_call 47; refine (wrong_calls m A c l i _ (Kd.C_below HR.out HI.out.2) HC.out HS.out HL.out (by omega)).mono ?_; rintro e w2 ⟨v2, rfl, hr2, hb2⟩; obtain ⟨A2, c2, rfl, hc2, _⟩ := Kd.R_reads hr2; have HB2 := Aside0.mk hb2; clear hr2 hb2 hc2)
        go_roundg (N - (i + 1))
        case measure => omega
        case rel =>
          refine ⟨i + 1, by omega, by omega, by go_num, ⟨(HB2.out.block _ (blk_lt HI.out.1)).trans HI.out.1, below_then HI.out.2 HI.out.2.size HB2.out⟩, ⟨fun j hj => ?_⟩⟩
          by_cases e : j = i
          · subst e
            exact HQ.out
          · exact AF.out j (by omega)
    · have hltz : ¬ (i : Int) < (N : Int) := by omega
      go_wp2
      go_ret2
      refine ⟨?_, HI.out.2⟩
      rw [← HZN.out, find_miss (fun j hj => AF.out j (by omega))]; rfl
def feuds_Sides.f (a0 : Int) (l1 : List S39) : Option (Int × Int) := some (sidesF a0 l1)
theorem feuds_Sides.calls (a0 : Int) (A1 : Option Addr) (c1 : Nat) (l1 : List S39) (r1 : Int) (r2 : Int) (w : World) (hr1 : Kd.C k39 w A1 l1.length l1) (hc1 : l1.length ≤ c1) (h : feuds_Sides.f a0 l1 = some (r1, r2)) :
    Calls Try.prog 18 #[.int .i64 a0, .slice A1 l1.length c1] w fun e w' => e = .returned (.tuple #[.int .i64 r1, .int .i64 r2]) ∧ Below w.heap.size w w' := by
  unfold feuds_Sides.f at h
  have h := Option.some.inj h
  by_cases h0 : tiesE a0 l1 = 0
  · have h1 := tiesE_parts h0
    obtain ⟨m, rfl⟩ : ∃ m : Nat, a0 = m := ⟨a0.toNat, by omega⟩
    exact Sides_good m A1 c1 l1 w hr1 hc1 h0 _ h
  · unfold sidesF at h
    rw [if_neg h0] at h
    cases h
    exact Sides_err a0 A1 c1 l1 w hr1 _ rfl h0
end Go.Proofs.Ytaegldcifhgnmaa.A

/- Wrong and Least: what they return. -/
namespace Go.Proofs.Ytaegldcifhgnmaa.A
open Go.RowKit Go.Proofs.YtaegldcifhgnmaaW.PrintWords Go.Proofs.YtaegldcifhgnmaaW.PrintMore
/-- Is a number a set of m drovers? -/
def setB (m : Nat) (s : Int) : Bool := decide (0 ≤ s) && decide (s < ((2 ^ m : Nat) : Int))
set_option maxRecDepth 100000 in
set_option maxHeartbeats 400000 in
theorem isSet_calls (m : Nat) (hm : m ≤ 8) (v : Value) (s : Int) (w : World) :
    Calls Try.prog 61 #[.agg #[.int .i64 m, v], .int .i64 s] w fun e w' => e = .returned (.bool (setB m s)) ∧ Below w.heap.size w w' := by
  have hw : wrap64 (2 ^ m) = ((2 ^ m : Nat) : Int) := by rw [wrap64_two (by omega), pow_cast]
  have hb : wrap64 ((1 : Int) * 2 ^ m) = ((2 ^ m : Nat) : Int) := by rw [Int.one_mul]; exact hw
  have HB := Aside0.mk (below_alloc (Below.refl w.heap.size w) (.cells #[.int .i64 m, v] 59))
  obtain ⟨b, hbv⟩ : ∃ b, setB m s = b := ⟨_, rfl⟩
  have HV := Aside0.mk hbv
  rw [hbv]
  clear hbv
  by_cases h0 : 0 ≤ s
  · go_enter Try.func61, Try.ntmps61
    go_wp2
    go_ret
    exact ⟨by rw [← HV.out]; simp [setB, h0], HB.out⟩
  · go_enter Try.func61, Try.ntmps61
    go_wp2
    go_ret
    exact ⟨by rw [← HV.out]; simp [setB]; omega, HB.out⟩

theorem errne {E : Int} (h : E ≠ 0) : (E != 0) = true := by rw [bne_iff_ne]; exact h

set_option maxRecDepth 100000 in
set_option maxHeartbeats 800000 in
theorem Wrong_err (n : Int) (A : Option Addr) (c : Nat) (l : List S39) (s : Int) (w : World) (hr : Kd.C k39 w A l.length l) (E : Int) (h : tiesE n l = E) (h0 : E ≠ 0) :
    Calls Try.prog 36 #[.int .i64 n, .slice A l.length c, .int .i64 s] w fun e w' => e = .returned (.tuple #[.slice none 0 0, .int .i64 E]) ∧ Below w.heap.size w w' := by
  have HR := Aside0.mk hr
  have HE := Aside0.mk h
  have hg := errne h0
  have H0 := Aside0.mk h0
  clear hr h h0
  go_enter Try.func36, Try.ntmps36
  go_wp2_with (go_at_call 46; refine (read_err HR.out HE.out H0.out).mono ?_; rintro e w' ⟨rfl, hb'⟩; have HB := Aside0.mk hb'; clear hb')
  go_ret2
  exact ⟨rfl, below_alloc HB.out _⟩

set_option maxRecDepth 100000 in
set_option maxHeartbeats 800000 in
theorem Wrong_good (m : Nat) (A : Option Addr) (c : Nat) (l : List S39) (s : Int) (w : World) (hr : Kd.C k39 w A l.length l) (hc : l.length ≤ c) (h : tiesE m l = 0) :
    Calls Try.prog 36 #[.int .i64 m, .slice A l.length c, .int .i64 s] w fun e w' => ∃ v, e = .returned (.tuple #[v, .int .i64 (if setB m s = true then 0 else 2)]) ∧ Kd.R (Kd.int .i64) 3 w' w.heap.size (fun _ => True) v (if setB m s = true then wrongF l s.toNat else []) ∧ Below w.heap.size w w' := by
  have hm : m ≤ 8 := by have := (tiesE_parts h).1; omega
  have HR := Aside0.mk hr
  have HC := Aside0.mk hc
  have HS := Aside0.mk (tiesE_small h)
  have HL : Aside0 (l.length ≤ 1000) := ⟨by have := (tiesE_parts h).2.1; omega⟩
  have HE := Aside0.mk h
  clear hr h hc
  cases hb : setB m s with
  | false =>
    have HV := Aside0.mk hb
    clear hb
    go_enter Try.func36, Try.ntmps36
    go_wp2_with (first | (go_at_call 46; refine (read_good HR.out HE.out).mono ?_; rintro e w1 ⟨rfl, hb1⟩; have HB1 := Aside0.mk hb1; clear hb1) | (go_at_call 61; refine (isSet_calls m hm _ s _).mono ?_; rw [HV.out]; rintro e w2 ⟨rfl, hb2⟩; have HB2 := Aside0.mk (below_then (below_alloc HB1.out _) (below_alloc HB1.out _).size hb2); clear hb2))
    go_ret2
    exact ⟨_, rfl, Kd.R_nil _ _ _ _ _, HB2.out⟩
  | true =>
    have HV := Aside0.mk hb
    have hs : 0 ≤ s ∧ s < ((2 ^ m : Nat) : Int) := by unfold setB at hb; simpa using hb
    obtain ⟨k, rfl⟩ := Int.eq_ofNat_of_zero_le hs.1
    have hk : Aside0 (k < 2 ^ 62) := ⟨by have := pow8 hm; omega⟩
    clear hb hs
    simp only [Int.toNat_natCast]
    go_enter Try.func36, Try.ntmps36
    go_wp2_with (first | (go_at_call 46; refine (read_good HR.out HE.out).mono ?_; rintro e w1 ⟨rfl, hb1⟩; have HB1 := Aside0.mk hb1; clear hb1) | (go_at_call 61; refine (isSet_calls m hm _ k _).mono ?_; rw [HV.out]; rintro e w2 ⟨rfl, hb2⟩; have hg2 := cells2 ((hb2.block _ (by simp)).trans (heap_alloc_new w1 (.cells #[.int .i64 (m : Int), .slice A l.length c] 59))); obtain ⟨r0, r1, _, _⟩ := hg2; have HB2 := Aside0.mk (below_then (below_alloc HB1.out _) (below_alloc HB1.out _).size hb2); clear hb2) | (go_at_call 47; refine (wrong_calls m A c l k _ (Kd.C_below HR.out HB2.out) HC.out HS.out HL.out hk.out).mono ?_; rintro e w3 ⟨v3, rfl, hr3, hb3⟩; have HR3 := Aside0.mk hr3; have HB3 := Aside0.mk hb3; clear hr3 hb3))
    go_ret2
    exact ⟨_, rfl, Kd.R_lower HR3.out HB2.out.size, below_then HB2.out HB2.out.size HB3.out⟩

def wrongE (n : Int) (l : List S39) (s : Int) : Int := if tiesE n l = 0 then (if setB n.toNat s = true then 0 else 2) else tiesE n l
def feuds_Wrong.f (a0 : Int) (l1 : List S39) (a2 : Int) : Option (List Int × Int) := some (if wrongE a0 l1 a2 = 0 then wrongF l1 a2.toNat else [], wrongE a0 l1 a2)
theorem feuds_Wrong.calls (a0 : Int) (A1 : Option Addr) (c1 : Nat) (l1 : List S39) (a2 : Int) (r1 : List Int) (r2 : Int) (w : World) (hr1 : Kd.C k39 w A1 l1.length l1) (hc1 : l1.length ≤ c1) (h : feuds_Wrong.f a0 l1 a2 = some (r1, r2)) :
    Calls Try.prog 36 #[.int .i64 a0, .slice A1 l1.length c1, .int .i64 a2] w fun e w' => ∃ v0_ : Value, e = .returned (.tuple #[v0_, .int .i64 r2]) ∧ Kd.R (Kd.int .i64) 3 w' w.heap.size (fun _ => True) v0_ r1 ∧ Below w.heap.size w w' := by
  unfold feuds_Wrong.f at h
  cases h
  by_cases h0 : tiesE a0 l1 = 0
  · have h1 := tiesE_parts h0
    obtain ⟨m, rfl⟩ : ∃ m : Nat, a0 = m := ⟨a0.toNat, by omega⟩
    have e : wrongE m l1 a2 = if setB m a2 = true then 0 else 2 := by unfold wrongE; rw [if_pos h0, Int.toNat_natCast]
    have := Wrong_good m A1 c1 l1 a2 w hr1 hc1 h0
    rw [e]
    cases hb : setB m a2 with
    | true => rw [hb] at this; exact this
    | false => rw [hb] at this; exact this
  · have e : wrongE a0 l1 a2 = tiesE a0 l1 := by unfold wrongE; rw [if_neg h0]
    rw [e, if_neg h0]
    exact (Wrong_err a0 A1 c1 l1 a2 w hr1 _ rfl h0).mono fun _ _ ⟨h1, h2⟩ => ⟨_, h1, Kd.R_nil _ _ _ _ _, h2⟩

/-! ### Least -/
/-- The first of k sets with the fewest wrong ties, and these. -/
def leastK (l : List S39) : Nat → Nat × List Int
  | 0 => (0, wrongF l 0)
  | k + 1 => if (wrongF l k).length < (leastK l k).2.length then (k, wrongF l k) else leastK l k

set_option maxRecDepth 100000 in
set_option maxHeartbeats 800000 in
theorem Least_err (n : Int) (A : Option Addr) (c : Nat) (l : List S39) (w : World) (hr : Kd.C k39 w A l.length l) (E : Int) (h : tiesE n l = E) (h0 : E ≠ 0) :
    Calls Try.prog 25 #[.int .i64 n, .slice A l.length c] w fun e w' => e = .returned (.tuple #[.int .i64 0, .slice none 0 0, .int .i64 E]) ∧ Below w.heap.size w w' := by
  have HR := Aside0.mk hr
  have HE := Aside0.mk h
  have hg := errne h0
  have H0 := Aside0.mk h0
  clear hr h h0
  go_enter Try.func25, Try.ntmps25
  go_wp2_with (go_at_call 46; refine (read_err HR.out HE.out H0.out).mono ?_; rintro e w' ⟨rfl, hb'⟩; have HB := Aside0.mk hb'; clear hb')
  go_ret3
  exact ⟨rfl, below_alloc HB.out _⟩

set_option maxRecDepth 100000 in
set_option maxHeartbeats 800000 in
theorem Least_good (m : Nat) (A : Option Addr) (c : Nat) (l : List S39) (w : World) (hr : Kd.C k39 w A l.length l) (hc : l.length ≤ c) (h : tiesE m l = 0) :
    Calls Try.prog 25 #[.int .i64 m, .slice A l.length c] w fun e w' => ∃ v, e = .returned (.tuple #[.int .i64 (leastK l (2 ^ m)).1, v, .int .i64 0]) ∧ Kd.R (Kd.int .i64) 3 w' w.heap.size (fun _ => True) v (leastK l (2 ^ m)).2 ∧ Below w.heap.size w w' := by
  have hm : m ≤ 8 := by have := (tiesE_parts h).1; omega
  have HR := Aside0.mk hr
  have HC := Aside0.mk hc
  have HS := Aside0.mk (tiesE_small h)
  have HL : Aside0 (l.length ≤ 1000) := ⟨by have := (tiesE_parts h).2.1; omega⟩
  have HE := Aside0.mk h
  clear hr h hc
  obtain ⟨N, hN⟩ : ∃ N : Nat, N = 2 ^ m := ⟨_, rfl⟩
  have hN8 : N ≤ 256 := by rw [hN]; exact pow8 hm
  have hw : wrap64 (2 ^ m) = (N : Int) := by rw [wrap64_two (by omega), pow_cast, hN]
  rw [← hN]
  clear hN
  go_enter Try.func25, Try.ntmps25
  go_wp2_with (first | (go_at_call 46; refine (read_good HR.out HE.out).mono ?_; rintro e w1 ⟨rfl, hb1⟩; have HB1 := Aside0.mk hb1; clear hb1) | (go_at_call 47; refine (wrong_calls m A c l 0 _ (Kd.C_below HR.out (below_alloc HB1.out _)) HC.out HS.out HL.out (by decide)).mono ?_; rintro e w2 ⟨v2, rfl, hr2, hb2⟩; have hg2 := (hb2.block _ (by simp)).trans (heap_alloc_new w1 (.cells #[.int .i64 (m : Int), .slice A l.length c] 59)); have HS1 := Aside0.mk (And.intro hg2 (And.intro (below_then (below_alloc HB1.out _) (below_alloc HB1.out _).size hb2) (Kd.R_lower hr2 (below_alloc HB1.out _).size))); clear hr2 hb2 hg2))
  rw [hw]
  clear hw
  go_loopg [9, 10, 11, 12, 26] N (fun gg v9 v10 _ _ v26 wr => ∃ i : Nat, i ≤ N ∧ N - i ≤ gg ∧ v26 = .int .i64 i ∧ v9 = .int .i64 (leastK l i).1 ∧ Aside0 (wr.heap[w1.heap.size]? = some (.cells #[.int .i64 (m : Int), .slice A l.length c] 59 (0, 0)) ∧ Below w.heap.size w wr ∧ Kd.R (Kd.int .i64) 3 wr w.heap.size (fun _ => True) v10 (leastK l i).2))
  case atStart => exact ⟨0, Nat.zero_le _, by omega, rfl, rfl, HS1⟩
  case round =>
    clear HS1 HB1
    obtain ⟨i, hi, hgg, rfl, rfl, HI⟩ := hrel
    obtain ⟨r0, r1, _, _⟩ := cells2 HI.out.1
    by_cases hlt : i < N
    · have hltz : (i : Int) < (N : Int) := by omega
      obtain ⟨A0, c0, rfl, hc0, _⟩ := Kd.R_reads HI.out.2.2
      obtain ⟨K, hK⟩ : ∃ K, (leastK l i).2.length = K := ⟨_, rfl⟩
      have HK := Aside0.mk hK
      obtain ⟨Q, hQ⟩ : ∃ Q, (wrongF l i).length = Q := ⟨_, rfl⟩
      have HQ := Aside0.mk hQ
      rw [hK]
      clear hK hQ hc0
      have hls : Aside0 (leastK l (i + 1) = if Q < K then (i, wrongF l i) else leastK l i) := ⟨by rw [leastK, HK.out, HQ.out]⟩
      by_cases hq : Q < K
      · have hqz : (Q : Int) < (K : Int) := by omega
        go_wp2_with (go_at_call 47; refine (wrong_calls m A c l i _ (Kd.C_below HR.out HI.out.2.1) HC.out HS.out HL.out (by omega)).mono ?_; rintro e w2 ⟨v2, rfl, hr2, hb2⟩; have HR2 := Aside0.mk hr2; obtain ⟨A2, c2, rfl, hc2, _⟩ := Kd.R_reads hr2; have HB2 := Aside0.mk hb2; rw [HQ.out] at HR2 ⊢; clear hr2 hb2 hc2)
        go_roundg (N - (i + 1))
        case measure => omega
        case rel =>
          refine ⟨i + 1, by omega, by omega, by go_num, by rw [hls.out, if_pos hq], ⟨(HB2.out.block _ (blk_lt HI.out.1)).trans HI.out.1, below_then HI.out.2.1 HI.out.2.1.size HB2.out, ?_⟩⟩
          rw [hls.out, if_pos hq]
          exact Kd.R_lower HR2.out HI.out.2.1.size
      · have hqz : ¬ (Q : Int) < (K : Int) := by omega
        go_wp2_with (go_at_call 47; refine (wrong_calls m A c l i _ (Kd.C_below HR.out HI.out.2.1) HC.out HS.out HL.out (by omega)).mono ?_; rintro e w2 ⟨v2, rfl, hr2, hb2⟩; have HR2 := Aside0.mk hr2; obtain ⟨A2, c2, rfl, hc2, _⟩ := Kd.R_reads hr2; have HB2 := Aside0.mk hb2; rw [HQ.out] at HR2 ⊢; clear hr2 hb2 hc2)
        go_roundg (N - (i + 1))
        case measure => omega
        case rel =>
          refine ⟨i + 1, by omega, by omega, by go_num, by rw [hls.out, if_neg hq], ⟨(HB2.out.block _ (blk_lt HI.out.1)).trans HI.out.1, below_then HI.out.2.1 HI.out.2.1.size HB2.out, ?_⟩⟩
          rw [hls.out, if_neg hq]
          rw [← HK.out]
          exact Kd.R_below HI.out.2.2 HB2.out
    · have hltz : ¬ (i : Int) < (N : Int) := by omega
      have hie : i = N := by omega
      subst hie
      go_wp2
      go_ret3
      exact ⟨_, rfl, HI.out.2.2, HI.out.2.1⟩
end Go.Proofs.Ytaegldcifhgnmaa.A

/- A copy of ties onto a row of the call's own. -/
namespace Go.Proofs.Ytaegldcifhgnmaa.A
open Go.RowKit Go.Proofs.YtaegldcifhgnmaaW.PrintWords Go.Proofs.YtaegldcifhgnmaaW.PrintMore
def cellsT (t : S39) : List Value := [.int .i64 t.f0, .int .i64 t.f1, .bool t.f2]
end Go.Proofs.Ytaegldcifhgnmaa.A

/- Ties switched by a set. -/
namespace Go.Proofs.Ytaegldcifhgnmaa.A
open Go.RowKit Go.Proofs.YtaegldcifhgnmaaW.PrintWords Go.Proofs.YtaegldcifhgnmaaW.PrintMore
/-- A tie, switched by a set. -/
def swT (s : Nat) (t : S39) : S39 := ⟨t.f0, t.f1, t.f2 != crossB t s⟩
def switchF (l : List S39) (s : Nat) : List S39 := l.map (swT s)
theorem seg_cells {w : World} {kb i : Nat} {y : S39} (h0 : w.cell? ⟨kb, i * 3, none⟩ = some (.int .i64 y.f0)) (h1 : w.cell? ⟨kb, i * 3 + 1, none⟩ = some (.int .i64 y.f1)) (h2 : w.cell? ⟨kb, i * 3 + 2, none⟩ = some (.bool y.f2)) :
    ∀ j u, (cellsT y)[j]? = some u → w.cell? ⟨kb, (i : Int).toNat * k39.sz + j, none⟩ = some u := by
  intro j u h
  rw [Int.toNat_natCast]
  show w.cell? ⟨kb, i * 3 + j, none⟩ = some u
  match j, h with
  | 0, h => cases h; exact h0
  | 1, h => cases h; exact h1
  | 2, h => cases h; exact h2

end Go.Proofs.Ytaegldcifhgnmaa.A

/- Switch and Same: what they return. -/
namespace Go.Proofs.Ytaegldcifhgnmaa.A
open Go.RowKit Go.Proofs.YtaegldcifhgnmaaW.PrintWords Go.Proofs.YtaegldcifhgnmaaW.PrintMore
def feuds_Switch.f (a0 : Int) (l1 : List S39) (a2 : Int) : Option (List S39 × Int) := some (if wrongE a0 l1 a2 = 0 then switchF l1 a2.toNat else [], wrongE a0 l1 a2)
def feuds_Least.f (a0 : Int) (l1 : List S39) : Option (Int × List Int × Int) := some (if tiesE a0 l1 = 0 then (((leastK l1 (2 ^ a0.toNat)).1 : Int), (leastK l1 (2 ^ a0.toNat)).2, 0) else (0, [], tiesE a0 l1))
theorem feuds_Least.calls (a0 : Int) (A1 : Option Addr) (c1 : Nat) (l1 : List S39) (r1 : Int) (r2 : List Int) (r3 : Int) (w : World) (hr1 : Kd.C k39 w A1 l1.length l1) (hc1 : l1.length ≤ c1) (h : feuds_Least.f a0 l1 = some (r1, r2, r3)) :
    Calls Try.prog 25 #[.int .i64 a0, .slice A1 l1.length c1] w fun e w' => ∃ v0_ : Value, e = .returned (.tuple #[.int .i64 r1, v0_, .int .i64 r3]) ∧ Kd.R (Kd.int .i64) 3 w' w.heap.size (fun _ => True) v0_ r2 ∧ Below w.heap.size w w' := by
  unfold feuds_Least.f at h
  by_cases h0 : tiesE a0 l1 = 0
  · have h1 := tiesE_parts h0
    obtain ⟨m, rfl⟩ : ∃ m : Nat, a0 = m := ⟨a0.toNat, by omega⟩
    rw [if_pos h0] at h
    cases h
    exact Least_good m A1 c1 l1 w hr1 hc1 h0
  · rw [if_neg h0] at h
    cases h
    exact (Least_err a0 A1 c1 l1 w hr1 _ rfl h0).mono fun _ _ ⟨h1, h2⟩ => ⟨_, h1, Kd.R_nil _ _ _ _ _, h2⟩

/-! ### Same -/
/-- Are the first k ties feuds so they are asked for? -/
def sameT (l : List S39) (fs : List Bool) (s i : Nat) : Bool := (swT s (l.getD i z39)).f2 == fs.getD i false
def sameK (l : List S39) (fs : List Bool) (s k : Nat) : Bool := (List.range k).all (sameT l fs s)
def sameB (l : List S39) (fs : List Bool) (s : Nat) : Bool := sameK l fs s l.length
def sameN (m : Nat) (l : List S39) (fs : List Bool) : Option Nat := (List.range (2 ^ m)).find? (sameB l fs)
def sameF (n : Int) (l : List S39) (fs : List Bool) : Int × Int := if tiesE n l = 0 then (if fs.length = l.length then (match sameN n.toNat l fs with | some s => ((s : Int), 0) | none => (0, 10)) else (0, 2)) else (0, tiesE n l)

def feuds_Same.f (a0 : Int) (l1 : List S39) (l2 : List Bool) : Option (Int × Int) := some (sameF a0 l1 l2)
end Go.Proofs.Ytaegldcifhgnmaa.A

/- The lists of rings that are gone through, plain; what is held while they are. -/
namespace Go.Proofs.Ytaegldcifhgnmaa.A
open Go.RowKit Go.Proofs.YtaegldcifhgnmaaW.PrintWords Go.Proofs.YtaegldcifhgnmaaW.PrintMore
/-! ### plain -/
def hasB (t : S39) (at_ : Nat) : Bool := t.f0 == (at_ : Int) || t.f1 == (at_ : Int)
def toT (t : S39) (at_ : Nat) : Nat := (t.f0 + t.f1 - (at_ : Int)).toNat
def feT (t : S39) : Nat := if t.f2 then 1 else 0
/-- May a list go on along a tie, d ties more being asked for behind it? -/
def goesB (t : S39) (fr d at_ met : Nat) : Bool := hasB t at_ && (if d = 0 then decide (toT t at_ = fr) else !met.testBit (toT t at_))
/-- The lists that go on from one, with d ties more, and their feuds. -/
def onF (l : List S39) (fr : Nat) : Nat → List Int → Nat → Nat → Nat → List (List Int × Nat)
  | 0, now, at_, _, fe => if at_ = fr then [(now, fe)] else []
  | d + 1, now, at_, met, fe => (List.range l.length).flatMap fun i => if goesB (l.getD i z39) fr d at_ met = true then onF l fr d (now ++ [(i : Int)]) (toT (l.getD i z39) at_) (met ||| 2 ^ toT (l.getD i z39) at_) (fe + feT (l.getD i z39)) else []
def onK (l : List S39) (fr d : Nat) (now : List Int) (at_ met fe k : Nat) : List (List Int × Nat) :=
  (List.range k).flatMap fun i => if goesB (l.getD i z39) fr d at_ met = true then onF l fr d (now ++ [(i : Int)]) (toT (l.getD i z39) at_) (met ||| 2 ^ toT (l.getD i z39) at_) (fe + feT (l.getD i z39)) else []
theorem onK_succ (l : List S39) (fr d : Nat) (now : List Int) (at_ met fe k : Nat) : onK l fr d now at_ met fe (k + 1) = onK l fr d now at_ met fe k ++ (if goesB (l.getD k z39) fr d at_ met = true then onF l fr d (now ++ [(k : Int)]) (toT (l.getD k z39) at_) (met ||| 2 ^ toT (l.getD k z39) at_) (fe + feT (l.getD k z39)) else []) := by
  unfold onK
  rw [List.range_succ, List.flatMap_append, List.flatMap_cons, List.flatMap_nil, List.append_nil]
/-- All lists that begin with a tie, coming back to one of its drovers. -/
def fromF (l : List S39) (d i fr : Nat) : List (List Int × Nat) :=
  onF l fr d [(i : Int)] (toT (l.getD i z39) fr) (2 ^ (l.getD i z39).f0.toNat ||| 2 ^ (l.getD i z39).f1.toNat) (feT (l.getD i z39))
def ringsK (l : List S39) (d k : Nat) : List (List Int × Nat) := (List.range k).flatMap fun i => fromF l d i (l.getD i z39).f0.toNat ++ fromF l d i (l.getD i z39).f1.toNat
/-- All lists with d + 1 ties. -/
def ringsF (l : List S39) (d : Nat) : List (List Int × Nat) := ringsK l d l.length
theorem ringsK_succ (l : List S39) (d k : Nat) : ringsK l d (k + 1) = ringsK l d k ++ (fromF l d k (l.getD k z39).f0.toNat ++ fromF l d k (l.getD k z39).f1.toNat) := by
  unfold ringsK
  rw [List.range_succ, List.flatMap_append, List.flatMap_cons, List.flatMap_nil, List.append_nil]

/-! ### worlds -/
theorem add_block (a : Addr) (k : Nat) : (a.add k).block = a.block := by unfold Addr.add; split <;> rfl
theorem cell_same {W W' : World} {a : Addr} (h : W'.heap[a.block]? = W.heap[a.block]?) : W'.cell? a = W.cell? a := by
  unfold World.cell?
  rw [h]
theorem C_move39 {W W' : World} {A : Option Addr} {n : Nat} {xs : List S39} (h : Kd.C k39 W A n xs) (hm : ∀ ad, A = some ad → 0 < n → W'.heap[ad.block]? = W.heap[ad.block]?) : Kd.C k39 W' A n xs := by
  refine ⟨h.1, h.2.1, fun hp => ?_⟩
  obtain ⟨ad, e, hc⟩ := h.2.2 hp
  refine ⟨ad, e, fun j p hj => ?_⟩
  obtain ⟨c, h1, h2, h3⟩ := hc j p hj
  exact ⟨c, h1, h2, fun i u hu => (cell_same (by rw [add_block]; exact hm ad e hp)).trans (h3 i u hu)⟩
theorem C_moveI {k : IntKind} {W W' : World} {A : Option Addr} {n : Nat} {xs : List Int} (h : Kd.C (Kd.int k) W A n xs) (hm : ∀ ad, A = some ad → 0 < n → W'.heap[ad.block]? = W.heap[ad.block]?) : Kd.C (Kd.int k) W' A n xs := by
  refine ⟨h.1, h.2.1, fun hp => ?_⟩
  obtain ⟨ad, e, hc⟩ := h.2.2 hp
  refine ⟨ad, e, fun j p hj => ?_⟩
  obtain ⟨c, h1, h2, h3⟩ := hc j p hj
  exact ⟨c, h1, h2, fun i u hu => (cell_same (by rw [add_block]; exact hm ad e hp)).trans (h3 i u hu)⟩

/-- A list of ties' numbers, and not an empty one. -/
def GoodL (now : List Int) : Prop := now ≠ [] ∧ ∀ x ∈ now, 0 ≤ x ∧ x < 60
theorem goodL_one {k : Nat} (h : k < 60) : GoodL [(k : Int)] := ⟨by simp, fun x hx => by
  have : x = (k : Int) := by simpa using hx
  omega⟩
theorem goodL_snoc {now : List Int} {k : Nat} (hn : GoodL now) (h : k < 60) : GoodL (now ++ [(k : Int)]) := ⟨by simp, fun x hx => by
  rcases List.mem_append.mp hx with e | e
  · exact hn.2 x e
  · have : x = (k : Int) := by simpa using e
    omega⟩

/-- All that lay, but for some blocks, lies. -/
structure Fw (S : Nat → Prop) (w w' : World) : Prop where
  os : w'.os = w.os
  tape : w'.tape = w.tape
  output : w'.output = w.output
  size : w.heap.size ≤ w'.heap.size
  block : ∀ k, k < w.heap.size → ¬ S k → w'.heap[k]? = w.heap[k]?
theorem Fw.of_below {S : Nat → Prop} {w w' : World} (h : Below w.heap.size w w') : Fw S w w' := ⟨h.os, h.tape, h.output, h.size, fun k hk _ => h.block k hk⟩
theorem Fw.trans {S S' : Nat → Prop} {a b c : World} (h : Fw S a b) (k : Fw S' b c) (hs : ∀ i, S' i → S i ∨ a.heap.size ≤ i) : Fw S a c :=
  ⟨k.os.trans h.os, k.tape.trans h.tape, k.output.trans h.output, Nat.le_trans h.size k.size, fun i hi hn => (k.block i (Nat.lt_of_lt_of_le hi h.size) (fun h' => (hs i h').elim hn (fun h'' => by omega))).trans (h.block i hi hn)⟩
theorem Fw.below {S : Nat → Prop} {w w' : World} {B : Nat} (h : Fw S w w') (hB : B ≤ w.heap.size) (hs : ∀ k, S k → B ≤ k) : Below B w w' :=
  ⟨h.os, h.tape, h.output, h.size, fun k hk => h.block k (by omega) (fun h' => by have := hs k h'; omega)⟩

/-- A function value that is called with lists and their feuds, and says false each time. -/
structure Visitor (gf : Nat) (lb : Array Value) {σ : Type} (step : σ → List Int → Nat → σ) (Inv : σ → (Nat → Prop) → World → Prop) : Prop where
  enters : ∀ args w, (callFunc gf args).run Try.prog w = .ok (.enter gf args) w
  lt : ∀ {s S W}, Inv s S W → ∀ k, S k → k < W.heap.size
  keep : ∀ {s S W W'}, Inv s S W → (∀ k, S k → W'.heap[k]? = W.heap[k]?) → Inv s S W'
  call : ∀ {s S W} (A : Option Addr) (c : Nat) (now : List Int) (fe : Nat), Inv s S W → Kd.C (Kd.int .i64) W A now.length now → now.length ≤ 1000 → now.length ≤ c → GoodL now → fe ≤ 1000 → (∀ ad, A = some ad → ¬ S ad.block ∧ ad.block < W.heap.size) →
    Calls Try.prog gf (#[.slice A now.length c, .int .i64 fe] ++ lb) W fun e w' => e = .returned (.bool false) ∧ ∃ S', Inv (step s now fe) S' w' ∧ (∀ k, S' k → S k ∨ W.heap.size ≤ k) ∧ Fw S W w'
end Go.Proofs.Ytaegldcifhgnmaa.A

/- What is held while rings are gone through. -/
namespace Go.Proofs.Ytaegldcifhgnmaa.A
open Go.RowKit Go.Proofs.YtaegldcifhgnmaaW.PrintWords Go.Proofs.YtaegldcifhgnmaaW.PrintMore
/-- The closure that goes on from a list. -/
def onV (g : Nat) : Value := .func (.func 82) #[] #[.pointer (some ⟨g + 3, 0, none⟩), .pointer (some ⟨g + 1, 0, none⟩), .pointer (some ⟨g + 2, 0, none⟩), .pointer (some ⟨g, 0, none⟩), .pointer (some ⟨g + 4, 0, none⟩)]

/-- What the memory holds: the boxes, the list so far, what the function value keeps; and one block more. -/
structure RSt {σ : Type} (Inv : σ → (Nat → Prop) → World → Prop) (S0 : Nat → Prop) (w0 : World) (g n : Nat) (A : Option Addr) (c : Nat) (l : List S39) (long gf : Nat) (lb : Array Value) (PB : List (Nat × Obj)) (v : Value) (now : List Int) (s : σ) (W : World) : Prop where
  fw : Fw S0 w0 W
  cn : W.heap[g]? = some (.cells #[.int .i64 n, .slice A l.length c] 59 (0, 0))
  cl : W.heap[g + 1]? = some (.cells #[.int .i64 long] 3 (0, 0))
  cv : W.heap[g + 2]? = some (.cells #[.func (.func gf) #[] lb] 81 (0, 0))
  cr : W.heap[g + 3]? = some (.cells #[v] 28 (0, 0))
  co : W.heap[g + 4]? = some (.cells #[onV g] 95 (0, 0))
  row : Kd.R (Kd.int .i64) 3 W (g + 5) (fun _ => True) v now
  inv : ∃ S, Inv s S W ∧ (∀ k, S k → S0 k ∨ g + 5 ≤ k) ∧ (∀ k, S k → some k ≠ v.ownBlock) ∧ ∀ q ∈ PB, ¬ S q.1
  pc : ∀ q ∈ PB, W.heap[q.1]? = some q.2
  pv : ∀ q ∈ PB, some q.1 ≠ v.ownBlock
  pl : ∀ q ∈ PB, q.1 ≠ g + 3
  ct : Kd.C k39 W A l.length l
  ca : ∀ ad, A = some ad → 0 < l.length → ad.block < g ∧ ¬ S0 ad.block
  s0 : ∀ k, S0 k → k < g
  wg : w0.heap.size ≤ g

variable {σ : Type} {Inv : σ → (Nat → Prop) → World → Prop} {S0 : Nat → Prop} {w0 W W' : World} {g n : Nat} {A : Option Addr} {c : Nat} {l : List S39} {long gf : Nat} {lb : Array Value} {PB : List (Nat × Obj)} {v v1 : Value} {now q : List Int} {s : σ} {step : σ → List Int → Nat → σ}
theorem RSt.big (h : RSt Inv S0 w0 g n A c l long gf lb PB v now s W) : g + 4 < W.heap.size := blk_lt h.co
/-- Where only new blocks are made. -/
theorem RSt.next (hv : Visitor gf lb step Inv) (h : RSt Inv S0 w0 g n A c l long gf lb PB v now s W) (hb : Below W.heap.size W W') : RSt Inv S0 w0 g n A c l long gf lb PB v now s W' := by
  have hbig := h.big
  obtain ⟨S, h1, h2, h3, h4⟩ := h.inv
  refine ⟨h.fw.trans (Fw.of_below (S := fun _ => False) hb) (fun _ h => h.elim), (hb.block _ (by omega)).trans h.cn, (hb.block _ (by omega)).trans h.cl, (hb.block _ (by omega)).trans h.cv, (hb.block _ (by omega)).trans h.cr, (hb.block _ (by omega)).trans h.co, Kd.R_below h.row hb, ⟨S, hv.keep h1 (fun k hk => hb.block k (hv.lt h1 k hk)), h2, h3, h4⟩, fun q hq => (hb.block _ (blk_lt (h.pc q hq))).trans (h.pc q hq), h.pv, h.pl, Kd.C_below h.ct hb, h.ca, h.s0, h.wg⟩

/-- The list's box is stored; its row may have grown. -/
theorem RSt.store (hv : Visitor gf lb step Inv) (h : RSt Inv S0 w0 g n A c l long gf lb PB v now s W) {W1 : World} (hg : W.grownBy W1 v.ownBlock) (hr : Kd.R (Kd.int .i64) 3 W1 (g + 5) (fun _ => True) v1 q) (hat : v1.ownBlock = v.ownBlock ∨ ∃ b, v1.ownBlock = some b ∧ W.heap.size ≤ b) :
    RSt Inv S0 w0 g n A c l long gf lb PB v1 q s (W1.setCell ⟨g + 3, 0, none⟩ v1) := by
  have hbig := h.big
  have hbs : ∀ b, v.ownBlock = some b → g + 5 ≤ b := fun b hb => Kd.R_base h.row b hb
  have hblk : ∀ k, k < W.heap.size → some k ≠ v.ownBlock → k ≠ g + 3 → (W1.setCell ⟨g + 3, 0, none⟩ v1).heap[k]? = W.heap[k]? := fun k hk hne hn3 => (Below.heap_setCell _ _ _ _ hn3).trans (hg.block k hk hne)
  have hlow : ∀ k, k < g + 5 → some k ≠ v.ownBlock := fun k hk e => by have := hbs k e.symm; omega
  have hsz : W.heap.size ≤ (W1.setCell ⟨g + 3, 0, none⟩ v1).heap.size := by
    have : W.heap.size ≤ W1.heap.size := hg.size
    unfold World.setCell; split <;> simp <;> omega
  have hot : (W1.setCell ⟨g + 3, 0, none⟩ v1).os = W1.os ∧ (W1.setCell ⟨g + 3, 0, none⟩ v1).tape = W1.tape ∧ (W1.setCell ⟨g + 3, 0, none⟩ v1).output = W1.output := by
    unfold World.setCell; split <;> exact ⟨rfl, rfl, rfl⟩
  obtain ⟨S, h1, h2, h3, h4⟩ := h.inv
  have hwg := h.wg
  have hs3 : ∀ k, S k → k ≠ g + 3 := fun k hk e => by
    rcases h2 k hk with h' | h'
    · have := h.s0 k h'; omega
    · omega
  have hnv1 : ∀ k, k < W.heap.size → some k ≠ v.ownBlock → some k ≠ v1.ownBlock := fun k hk hne e => by
    rcases hat with ho | ⟨b, hb, hle⟩
    · exact hne (e.trans ho)
    · rw [hb] at e; cases e; omega
  refine ⟨⟨hot.1.trans (hg.os.trans h.fw.os), hot.2.1.trans (hg.tape.trans h.fw.tape), hot.2.2.trans (hg.output.trans h.fw.output), Nat.le_trans h.fw.size hsz, fun k hk hs => (hblk k (by have := h.fw.size; omega) (hlow k (by omega)) (by omega)).trans (h.fw.block k hk hs)⟩, ?_, ?_, ?_, ?_, ?_, ?_, ⟨S, hv.keep h1 (fun k hk => hblk k (hv.lt h1 k hk) (h3 k hk) (hs3 k hk)), h2, fun k hk => hnv1 k (hv.lt h1 k hk) (h3 k hk), h4⟩, fun q hq => (hblk q.1 (blk_lt (h.pc q hq)) (h.pv q hq) (h.pl q hq)).trans (h.pc q hq), fun q hq => hnv1 q.1 (blk_lt (h.pc q hq)) (h.pv q hq), h.pl, C_move39 h.ct (fun ad e hp => hblk _ (by have := (h.ca ad e hp).1; omega) (hlow _ (by have := (h.ca ad e hp).1; omega)) (by have := (h.ca ad e hp).1; omega)), h.ca, h.s0, h.wg⟩
  · exact (hblk g (by omega) (hlow g (by omega)) (by omega)).trans h.cn
  · exact (hblk (g + 1) (by omega) (hlow _ (by omega)) (by omega)).trans h.cl
  · exact (hblk (g + 2) (by omega) (hlow _ (by omega)) (by omega)).trans h.cv
  · exact blk_set ((hg.block (g + 3) (by omega) (hlow _ (by omega))).trans h.cr) 0 _
  · exact (hblk (g + 4) (by omega) (hlow _ (by omega)) (by omega)).trans h.co
  · have h1 := Kd.R_bound hr
    exact Kd.R_mono (Kd.R_far h1 (fun k hk => by show k ≠ g + 3; have := hk.2.1; omega) v1) (fun _ _ => trivial)

theorem own_slice_same {A : Option Addr} {n c n' c' : Nat} : (Value.slice A n c).ownBlock = (Value.slice A n' c').ownBlock := by cases A <;> rfl
/-- The list is cut. -/
theorem RSt.cut (hv : Visitor gf lb step Inv) {A' : Option Addr} {n' c' m : Nat} (h : RSt Inv S0 w0 g n A c l long gf lb PB (.slice A' n' c') now s W) (hm : m ≤ now.length) (hq : now.take m = q) : RSt Inv S0 w0 g n A c l long gf lb PB (.slice A' m c') q s (W.setCell ⟨g + 3, 0, none⟩ (.slice A' m c')) := by
  have hr := Kd.R_take (m := m) h.row hm
  rw [hq] at hr
  exact h.store hv (World.grownBy.refl W _) hr (.inl own_slice_same)
theorem RSt.cut' {A' : Option Addr} {n' c' m : Nat} (h : RSt Inv S0 w0 g n A c l long gf lb PB (.slice A' n' c') now s W) (hm : m ≤ now.length) : Kd.R (Kd.int .i64) 3 W (g + 5) (fun _ => True) (.slice A' m c') (now.take m) := Kd.R_take (m := m) h.row hm

/-- A list is visited. -/
theorem RSt.visit (hv : Visitor gf lb step Inv) (h : RSt Inv S0 w0 g n A c l long gf lb PB v now s W) (A' : Option Addr) (c' : Nat) (hvv : v = .slice A' now.length c') (fe : Nat) (hf : fe ≤ 1000) (hn : now.length ≤ 1000) (hne : GoodL now) :
    Calls Try.prog gf (#[.slice A' now.length c', .int .i64 fe] ++ lb) W fun e w' => e = .returned (.bool false) ∧ RSt Inv S0 w0 g n A c l long gf lb PB v now (step s now fe) w' := by
  subst hvv
  have hbig := h.big
  obtain ⟨S, h1, h2, h3, h4⟩ := h.inv
  have hrr := Kd.R_reads' h.row
  refine (hv.call A' c' now fe h1 hrr.2.2 hn hrr.2.1 hne hf (fun ad e => ?_)).mono ?_
  · subst e
    exact ⟨fun hs => h3 _ hs rfl, Kd.R_lt h.row ad.block rfl⟩
  rintro e w' ⟨rfl, S', k1, k2, k3⟩
  have hS : ∀ k, S k → S0 k ∨ g + 5 ≤ k := h2
  have hlow : ∀ k, g ≤ k → k < g + 5 → ¬ S k := fun k ha hb hs => by
    rcases h2 k hs with h' | h'
    · have := h.s0 k h'; omega
    · omega
  have hblk : ∀ k, k < W.heap.size → ¬ S k → w'.heap[k]? = W.heap[k]? := k3.block
  have hpb : ∀ q ∈ PB, ¬ S' q.1 := fun q hq hs => by
    rcases k2 q.1 hs with h' | h'
    · exact h4 q hq h'
    · have := blk_lt (h.pc q hq); omega
  refine ⟨rfl, ⟨h.fw.trans k3 (fun i hi => ?_), (hblk g (by omega) (hlow g (by omega) (by omega))).trans h.cn, (hblk _ (by omega) (hlow _ (by omega) (by omega))).trans h.cl, (hblk _ (by omega) (hlow _ (by omega) (by omega))).trans h.cv, (hblk _ (by omega) (hlow _ (by omega) (by omega))).trans h.cr, (hblk _ (by omega) (hlow _ (by omega) (by omega))).trans h.co, ?_, ⟨S', k1, fun k hk => ?_, fun k hk => ?_, hpb⟩, fun q hq => (hblk q.1 (blk_lt (h.pc q hq)) (h4 q hq)).trans (h.pc q hq), h.pv, h.pl, C_move39 h.ct (fun ad e hp => hblk _ (by have := (h.ca ad e hp).1; omega) (fun hs => ?_)), h.ca, h.s0, h.wg⟩⟩
  · rcases h2 i hi with h' | h'
    · exact .inl h'
    · exact .inr (by have := h.wg; omega)
  · obtain ⟨hok, inner, ho, hr⟩ := h.row
    exact ⟨hok, inner, own_move ho (fun k hk => hblk k (Kd.R_lt h.row k hk) (fun hs => h3 k hs hk.symm)), hr⟩
  · rcases k2 k hk with h' | h'
    · exact h2 k h'
    · exact .inr (by omega)
  · rcases k2 k hk with h' | h'
    · exact h3 k h'
    · intro e
      have := Kd.R_lt h.row k e.symm
      omega
  · have hca := h.ca ad e hp
    rcases h2 _ hs with h' | h'
    · exact hca.2 h'
    · omega
end Go.Proofs.Ytaegldcifhgnmaa.A

/- The rings: the closure that goes on from a list. -/
namespace Go.Proofs.Ytaegldcifhgnmaa.A
open Go.RowKit Go.Proofs.YtaegldcifhgnmaaW.PrintWords Go.Proofs.YtaegldcifhgnmaaW.PrintMore
set_option maxRecDepth 100000 in
set_option maxHeartbeats 400000 in
theorem has_calls (t : S39) (at_ : Nat) (w : World) :
    Calls Try.prog 80 #[.agg #[.int .i64 t.f0, .int .i64 t.f1, .bool t.f2], .int .i64 at_] w fun e w' => e = .returned (.bool (hasB t at_)) ∧ Below w.heap.size w w' := by
  have HB := Aside0.mk (below_alloc (Below.refl w.heap.size w) (.cells #[.int .i64 t.f0, .int .i64 t.f1, .bool t.f2] 39))
  obtain ⟨b, hbv⟩ : ∃ b, hasB t at_ = b := ⟨_, rfl⟩
  have HV := Aside0.mk hbv
  rw [hbv]
  clear hbv
  cases h0 : t.f0 == (at_ : Int) with
  | true =>
    go_enter Try.func80, Try.ntmps80
    go_wp2
    go_ret
    exact ⟨by rw [← HV.out]; simp only [hasB, h0, Bool.true_or]; rfl, HB.out⟩
  | false =>
    go_enter Try.func80, Try.ntmps80
    go_wp2
    go_ret
    exact ⟨by rw [← HV.out]; simp only [hasB, h0, Bool.false_or]; rfl, HB.out⟩

theorem enters82 : ∀ args w, (callFunc 82 args).run Try.prog w = .ok (.enter 82 args) w := enters_of Try.func82 (by kernel_rfl) rfl

section
variable {σ : Type} (Inv : σ → (Nat → Prop) → World → Prop) (step : σ → List Int → Nat → σ) (S0 : Nat → Prop) (w0 : World) (g n : Nat) (A : Option Addr) (c : Nat) (l : List S39) (long gf : Nat) (lb : Array Value) (fr : Nat)
def foldV (step : σ → List Int → Nat → σ) (s : σ) (V : List (List Int × Nat)) : σ := V.foldl (fun s x => step s x.1 x.2) s

def OnPost (PB : List (Nat × Obj)) (now : List Int) (s : σ) (e : Ending) (w' : World) : Prop := e = .returned (.bool false) ∧ ∃ v, RSt Inv S0 w0 g n A c l long gf lb PB v now s w'
def OnSaid (d : Nat) : Prop :=
  ∀ (PB : List (Nat × Obj)) (now : List Int) (at_ met fe : Nat) (v : Value) (s : σ) (W : World), RSt Inv S0 w0 g n A c l long gf lb PB v now s W → now.length + d = long → GoodL now → at_ < 60 → met < 2 ^ 60 → fe + d ≤ 1000 →
    Calls Try.prog 82 #[.int .i64 fr, .int .i64 at_, .int .i64 met, .int .i64 fe, .pointer (some ⟨g + 3, 0, none⟩), .pointer (some ⟨g + 1, 0, none⟩), .pointer (some ⟨g + 2, 0, none⟩), .pointer (some ⟨g, 0, none⟩), .pointer (some ⟨g + 4, 0, none⟩)] W (OnPost Inv S0 w0 g n A c l long gf lb PB now (foldV step s (onF l fr d now at_ met fe)))
end
variable {σ : Type} {Inv : σ → (Nat → Prop) → World → Prop} {step : σ → List Int → Nat → σ} {S0 : Nat → Prop} {w0 : World} {g n : Nat} {A : Option Addr} {c : Nat} {l : List S39} {long gf : Nat} {lb : Array Value} {fr : Nat}
set_option maxRecDepth 100000 in
set_option maxHeartbeats 1600000 in
theorem on_zero (hv : Visitor gf lb step Inv) (hlong : long ≤ 1000) : OnSaid Inv step S0 w0 g n A c l long gf lb fr 0 := by
  intro PB now at_ met fe v s W hR hn hne hat hmet hfe
  have HR := Aside0.mk hR
  have HV := Aside0.mk hv
  have hz : (((now.length : Nat) : Int) == (long : Int)) = true := by rw [beq_iff_eq]; omega
  have eg := hv.enters
  obtain ⟨A2, c2, hvv, hc2, _⟩ := Kd.R_reads hR.row
  obtain ⟨l0, _⟩ := cells1 hR.cr
  obtain ⟨l1, _⟩ := cells1 hR.cl
  obtain ⟨l2, _⟩ := cells1 hR.cv
  have hvis := Aside0.mk (hR.visit hv A2 c2 hvv fe (by omega) (by omega) hne)
  subst hvv
  clear hR hv hn hne hc2 hmet hfe
  by_cases hf : at_ = fr
  · have hfz : ((at_ : Int) == (fr : Int)) = true := by rw [beq_iff_eq, hf]
    have HF : Aside0 (foldV step s (onF l fr 0 now at_ met fe) = step s now fe) := ⟨by unfold onF; rw [if_pos hf]; rfl⟩
    rw [HF.out]
    clear hf
    go_enter Try.func82, Try.ntmps82
    go_wp2
    go_step3
    go_wp2_with (go_at_fn gf; refine hvis.out.mono ?_; rintro e w2 ⟨rfl, hR2⟩; have HR2 := Aside0.mk hR2; clear hR2)
    rw [Exit.noGoto_ret]
    go_ret
    exact ⟨rfl, _, HR2.out⟩
  · have hfz : ((at_ : Int) == (fr : Int)) = false := by rw [beq_eq_false_iff_ne]; omega
    have HF : Aside0 (foldV step s (onF l fr 0 now at_ met fe) = s) := ⟨by unfold onF; rw [if_neg hf]; rfl⟩
    rw [HF.out]
    clear hf
    go_enter Try.func82, Try.ntmps82
    go_wp2
    go_step3
    go_wp2
    rw [Exit.noGoto_ret]
    go_ret
    exact ⟨rfl, _, HR.out⟩
end Go.Proofs.Ytaegldcifhgnmaa.A

/- The rings: the closure that goes on from a list, one tie after another. -/
namespace Go.Proofs.Ytaegldcifhgnmaa.A
open Go.RowKit Go.Proofs.YtaegldcifhgnmaaW.PrintWords Go.Proofs.YtaegldcifhgnmaaW.PrintMore
variable {σ : Type} {Inv : σ → (Nat → Prop) → World → Prop} {step : σ → List Int → Nat → σ} {S0 : Nat → Prop} {w0 : World} {g n : Nat} {A : Option Addr} {c : Nat} {l : List S39} {long gf : Nat} {lb : Array Value} {fr : Nat}
theorem foldV_append (s : σ) (V V' : List (List Int × Nat)) : foldV step s (V ++ V') = foldV step (foldV step s V) V' := List.foldl_append
theorem toT_eq {t : S39} {at_ : Nat} (hs : 0 ≤ t.f0 ∧ t.f0 < 60 ∧ 0 ≤ t.f1 ∧ t.f1 < 60) (h : hasB t at_ = true) : t.f0 + t.f1 - (at_ : Int) = (toT t at_ : Int) ∧ toT t at_ < 60 := by
  unfold hasB at h
  unfold toT
  rw [Bool.or_eq_true, beq_iff_eq, beq_iff_eq] at h
  omega
theorem bit_ask {y k : Nat} (hk : k ≤ 60) (hy : y < 2 ^ 62) : (bits .and .i64 ((y : Int) / 2 ^ k) 1 == 1) = y.testBit k := by
  have := bit_and y k hk hy
  rw [shr_nat y k hk] at this
  have e : ((y : Int) / 2 ^ k) = ((y / 2 ^ k : Nat) : Int) := by simp
  rw [e, this]
  cases y.testBit k <;> rfl

theorem onK_no {t : S39} {d : Nat} {now : List Int} {at_ met fe k : Nat} {s : σ} (ht : l.getD k z39 = t) (h : goesB t fr d at_ met = false) : foldV step s (onK l fr d now at_ met fe (k + 1)) = foldV step s (onK l fr d now at_ met fe k) := by
  rw [onK_succ, ht, h]
  simp
theorem onK_yes {t : S39} {d : Nat} {now : List Int} {at_ met fe k : Nat} {s : σ} (ht : l.getD k z39 = t) (h : goesB t fr d at_ met = true) : foldV step s (onK l fr d now at_ met fe (k + 1)) = foldV step (foldV step s (onK l fr d now at_ met fe k)) (onF l fr d (now ++ [(k : Int)]) (toT t at_) (met ||| 2 ^ toT t at_) (fe + feT t)) := by
  rw [onK_succ, ht, if_pos h, foldV_append]

/-- The tests of a tie that goes on, as the walk meets them. -/
theorem goes_yes {t : S39} {d at_ met z N L : Nat} (hz : toT t at_ = z) (h : goesB t fr d at_ met = true) (hn : N + (d + 1) = L) (h60 : z < 60) (hm : met < 2 ^ 60) :
    (((N : Int) == (L : Int) - 1) = true ∧ decide ((N : Int) < (L : Int) - 1) = false ∧ ((z : Int) != (fr : Int)) = false) ∨ (((N : Int) == (L : Int) - 1) = false ∧ decide ((N : Int) < (L : Int) - 1) = true ∧ (bits .and .i64 ((met : Int) / 2 ^ z) 1 == 1) = false) := by
  unfold goesB at h
  rw [Bool.and_eq_true, hz] at h
  by_cases hd : d = 0
  · rw [if_pos hd] at h
    have := of_decide_eq_true h.2
    exact .inl ⟨by rw [beq_iff_eq]; omega, decide_eq_false (by omega), by rw [bne_eq_false_iff_eq]; omega⟩
  · rw [if_neg hd] at h
    exact .inr ⟨by rw [beq_eq_false_iff_ne]; omega, decide_eq_true (by omega), by rw [bit_ask (by omega) (lt62 hm (by omega))]; simpa using h.2⟩
theorem goes_no {t : S39} {d at_ met z N L : Nat} (hz : toT t at_ = z) (hb : hasB t at_ = true) (h : goesB t fr d at_ met = false) (hn : N + (d + 1) = L) (h60 : z < 60) (hm : met < 2 ^ 60) :
    (((N : Int) == (L : Int) - 1) = true ∧ decide ((N : Int) < (L : Int) - 1) = false ∧ ((z : Int) != (fr : Int)) = true) ∨ (((N : Int) == (L : Int) - 1) = false ∧ decide ((N : Int) < (L : Int) - 1) = true ∧ (bits .and .i64 ((met : Int) / 2 ^ z) 1 == 1) = true) := by
  unfold goesB at h
  rw [hb, Bool.true_and, hz] at h
  by_cases hd : d = 0
  · rw [if_pos hd] at h
    have := of_decide_eq_false h
    exact .inl ⟨by rw [beq_iff_eq]; omega, decide_eq_false (by omega), by rw [bne_iff_ne]; omega⟩
  · rw [if_neg hd] at h
    exact .inr ⟨by rw [beq_eq_false_iff_ne]; omega, decide_eq_true (by omega), by rw [bit_ask (by omega) (lt62 hm (by omega))]; simpa using h⟩

set_option maxRecDepth 100000 in
set_option maxHeartbeats 3200000 in
theorem on_step (hv : Visitor gf lb step Inv) (hlong : long ≤ 1000) (hsm : smallT l) (hl : l.length ≤ 60) (d : Nat) (ih : OnSaid Inv step S0 w0 g n A c l long gf lb fr d) : OnSaid Inv step S0 w0 g n A c l long gf lb fr (d + 1) := by
  intro PB now at_ met fe v s W hR hn hne hat hmet hfe
  have HR := Aside0.mk hR
  have HV := Aside0.mk hv
  have HI := Aside0.mk ih
  have HS := Aside0.mk hsm
  have HM := Aside0.mk hmet
  have HN := Aside0.mk hn
  have hz : (((now.length : Nat) : Int) == (long : Int)) = false := by rw [beq_eq_false_iff_ne]; omega
  obtain ⟨A2, c2, hvv, hc2, _⟩ := Kd.R_reads hR.row
  subst hvv
  obtain ⟨l0, _⟩ := cells1 hR.cr
  obtain ⟨l1, _⟩ := cells1 hR.cl
  obtain ⟨n0, n1, _, _⟩ := cells2 hR.cn
  obtain ⟨Z, hZ⟩ : ∃ Z, foldV step s (onF l fr (d + 1) now at_ met fe) = Z := ⟨_, rfl⟩
  have HZ := Aside0.mk hZ
  rw [hZ]
  clear hR hv ih hsm hmet hc2 hZ
  go_enter Try.func82, Try.ntmps82
  go_wp2
  go_step3
  go_wp2
  go_step3
  go_wp2
  have hlong' : long ≤ 1000 := hlong
  go_loopg [14, 15, 16, 17, 18, 35, 51] l.length (fun gg _ _ _ _ _ v35 _ wr => ∃ (k : Nat) (v1 : Value), k ≤ l.length ∧ l.length - k ≤ gg ∧ v35 = .int .i64 k ∧ Aside0 (RSt Inv S0 w0 g n A c l long gf lb PB v1 now (foldV step s (onK l fr d now at_ met fe k)) wr))
  case atStart => exact ⟨0, _, Nat.zero_le _, by omega, rfl, HR⟩
  case round =>
    clear HR l0 l1 n0 n1
    obtain ⟨k, v1, hk, hgg, rfl, HP⟩ := hrel
    by_cases hlt : k < l.length
    · have hltz : (k : Int) < (l.length : Int) := by omega
      obtain ⟨ad, had, hx0, hx1, hx2⟩ := at_T39 HP.out.ct (k : Int) (by omega) (by omega)
      subst had
      rw [Int.toNat_natCast] at hx0 hx1 hx2
      have hrd : rd_T39 l (k : Int) = l.getD k z39 := by simp [rd_T39]
      rw [hrd] at hx0 hx1 hx2
      have hts := HS.out _ (getD_mem z39 hlt)
      generalize hy : l.getD k z39 = y at hx0 hx1 hx2 hts
      obtain ⟨ya, yb, yf⟩ := y
      dsimp only at hx0 hx1 hx2 hts
      have HY := Aside0.mk hy
      clear hy hrd
      obtain ⟨A1, c1, hv1, hc1, _⟩ := Kd.R_reads HP.out.row
      subst hv1
      clear hc1
      cases hb : hasB ⟨ya, yb, yf⟩ at_ with
      | false =>
        have HBB := Aside0.mk hb
        have HNO : Aside0 (goesB ⟨ya, yb, yf⟩ fr d at_ met = false) := ⟨by unfold goesB; rw [hb]; rfl⟩
        clear hb hts
        go_wp2_with (go_at_call 80; refine (has_calls ⟨ya, yb, _⟩ at_ _).mono ?_; rw [HBB.out]; rintro e w3 ⟨rfl, hb3⟩; obtain ⟨t0, t1, t2, _, _, _⟩ := cells3 ((hb3.block _ (by simp)).trans (heap_alloc_new wr (.cells #[.int .i64 ya, .int .i64 yb, .bool _] 39))); have HP3 := Aside0.mk (HP.out.next HV.out (below_then (below_alloc (Below.refl wr.heap.size wr) _) (below_alloc (Below.refl _ _) _).size hb3)); clear hb3)
        go_roundg (l.length - (k + 1))
        case measure => omega
        case rel => exact ⟨k + 1, _, by omega, by omega, by go_num, ⟨by rw [onK_no HY.out HNO.out]; exact HP3.out⟩⟩
      | true =>
        have HBB := Aside0.mk hb
        obtain ⟨hz1, hz2⟩ := toT_eq hts hb
        obtain ⟨z, hzz⟩ : ∃ z, toT ⟨ya, yb, yf⟩ at_ = z := ⟨_, rfl⟩
        rw [hzz] at hz1 hz2
        have HZZ := Aside0.mk hzz
        obtain ⟨hts0, hts1, hts2, hts3⟩ := hts
        clear hzz hb
        cases hgo : goesB ⟨ya, yb, yf⟩ fr d at_ met with
        | false =>
          have HGO := Aside0.mk hgo
          rcases goes_no HZZ.out HBB.out hgo HN.out hz2 HM.out with ⟨e1, e2, e3⟩ | ⟨e1, e2, e3⟩
          all_goals
            clear hgo
            go_wp2_with (go_at_call 80; refine (has_calls ⟨ya, yb, _⟩ at_ _).mono ?_; rw [HBB.out]; rintro e w3 ⟨rfl, hb3⟩; obtain ⟨t0, t1, t2, _, _, _⟩ := cells3 ((hb3.block _ (by simp)).trans (heap_alloc_new wr (.cells #[.int .i64 ya, .int .i64 yb, .bool _] 39))); have HP3 := Aside0.mk (HP.out.next HV.out (below_then (below_alloc (Below.refl wr.heap.size wr) _) (below_alloc (Below.refl _ _) _).size hb3)); clear hb3; obtain ⟨l3, lf3⟩ := cells1 HP3.out.cr; obtain ⟨m3, _⟩ := cells1 HP3.out.cl)
            go_roundg (l.length - (k + 1))
            case measure => omega
            case rel => exact ⟨k + 1, _, by omega, by omega, by go_num, ⟨by rw [onK_no HY.out HGO.out]; exact HP3.out⟩⟩
        | true =>
          have HGO := Aside0.mk hgo
          obtain ⟨M, hM⟩ : ∃ M, met ||| 2 ^ z = M := ⟨_, rfl⟩
          obtain ⟨G, hG⟩ : ∃ G, fe + feT ⟨ya, yb, yf⟩ = G := ⟨_, rfl⟩
          have HREC : Aside0 (∀ V4 W6, RSt Inv S0 w0 g n (some ad) c l long gf lb PB V4 (now ++ [(k : Int)]) (foldV step s (onK l fr d now at_ met fe k)) W6 → Calls Try.prog 82 #[.int .i64 fr, .int .i64 z, .int .i64 M, .int .i64 G, .pointer (some ⟨g + 3, 0, none⟩), .pointer (some ⟨g + 1, 0, none⟩), .pointer (some ⟨g + 2, 0, none⟩), .pointer (some ⟨g, 0, none⟩), .pointer (some ⟨g + 4, 0, none⟩)] W6 (OnPost Inv S0 w0 g n (some ad) c l long gf lb PB (now ++ [(k : Int)]) (foldV step s (onK l fr d now at_ met fe (k + 1))))) := ⟨fun V4 W6 h6 => by
            have := HI.out PB (now ++ [(k : Int)]) z M G V4 _ W6 h6 (by have := HN.out; rw [List.length_append, List.length_singleton]; omega) (goodL_snoc hne (by omega)) hz2 (by rw [← hM]; exact or_lt HM.out (Nat.pow_lt_pow_right (by decide) hz2)) (by rw [← hG]; unfold feT; split <;> omega)
            rw [onK_yes HY.out HGO.out, HZZ.out, hM, hG]
            exact this⟩
          have hor : bits .or .i64 (met : Int) (2 ^ z) = (M : Int) := by rw [pow_cast, or64 met (2 ^ z) (lt62 HM.out (by omega)) (two_lt (by omega)), hM]
          have hp2 : IntKind.i64.wrap ((2 : Int) ^ z) = 2 ^ z := by rw [pow_cast]; exact wrap64_nat _ (Int.natCast_nonneg _) (by exact_mod_cast two_lt (show z < 62 by omega))
          have HOR := Aside0.mk hor
          have HP2 := Aside0.mk hp2
          have HG := Aside0.mk hG
          clear hor hp2 hM hG
          rcases goes_yes HZZ.out hgo HN.out hz2 HM.out with ⟨e1, e2, e3⟩ | ⟨e1, e2, e3⟩
          all_goals
            clear hgo
            cases yf
            all_goals
              first
                | (have hg1 : fe = G := HG.out; subst hg1)
                | (have hg1 : (fe : Int) + 1 = (G : Int) := by have h : fe + 1 = G := HG.out; omega)
              go_wp2_with (first
                | (go_at_call 80; refine (has_calls ⟨ya, yb, _⟩ at_ _).mono ?_; rw [HBB.out]; rintro e w3 ⟨rfl, hb3⟩; obtain ⟨t0, t1, t2, _, _, _⟩ := cells3 ((hb3.block _ (by simp)).trans (heap_alloc_new wr (.cells #[.int .i64 ya, .int .i64 yb, .bool _] 39))); have HP3 := Aside0.mk (HP.out.next HV.out (below_then (below_alloc (Below.refl wr.heap.size wr) _) (below_alloc (Below.refl _ _) _).size hb3)); clear hb3; obtain ⟨l3, lf3⟩ := cells1 HP3.out.cr; obtain ⟨m3, _⟩ := cells1 HP3.out.cl)
                | (at_builtin; refine Kd.R_append (Kd.int .i64) (w0 := w3) (g + 5) rfl (.tmp 79) (.tmp 81) 28 3 (.int .i64 0) 8 rfl Try.underlying28 info3 rfl (by decide) (by omega) (.slice A1 now.length c1) now (k : Int) [.int .i64 (k : Int)] (fun _ => True) (fun _ => False) rfl rfl rfl (fun _ hk => hk.elim) (fun _ _ => trivial) HP3.out.row (Below.refl _ _) (by have := HP3.out.big; omega) (by omega) ?_; intro v4 w4 ho hbb hg4 hat; obtain ⟨A4, c4, hv4, hc4, _⟩ := Kd.R_reads ho; rw [show (now ++ [(k : Int)]).length = now.length + 1 from by simp] at hv4; subst hv4; have HP4 := Aside0.mk (HP3.out.store HV.out hg4 ho hat); have hk4 := (hg4.block _ (blk_lt HP3.out.cr) (fun e => by have := Kd.R_base HP3.out.row _ e.symm; omega)).trans HP3.out.cr; obtain ⟨l4, lf4⟩ := cells1 hk4; clear ho hbb hg4 hat hk4 hc4 l3 lf3 m3 t0 t1 t2))
              obtain ⟨W5, hW5⟩ : ∃ W5, W5 = w4.setCell ⟨g + 3, 0, none⟩ (.slice A4 (now.length + 1) c4) := ⟨_, rfl⟩
              rw [← hW5] at HP4 ⊢
              obtain ⟨V4, hV4⟩ : ∃ V4, V4 = Value.slice A4 (now.length + 1) c4 := ⟨_, rfl⟩
              rw [← hV4] at HP4
              clear hW5 hV4 l4 lf4 HP3
              have HS0 : Aside0 (W5.drew.cell? ⟨g + 4, 0, none⟩ = some (.func (.func 82) #[] #[.pointer (some ⟨g + 3, 0, none⟩), .pointer (some ⟨g + 1, 0, none⟩), .pointer (some ⟨g + 2, 0, none⟩), .pointer (some ⟨g, 0, none⟩), .pointer (some ⟨g + 4, 0, none⟩)])) := ⟨(cells1 HP4.out.co).1⟩
              have hp2 := HP2.out
              have hor := HOR.out
              have eg := enters82
              go_region_held3 (fun w' : World => w'.cell? ⟨g + 4, 0, none⟩ = some (.func (.func 82) #[] #[.pointer (some ⟨g + 3, 0, none⟩), .pointer (some ⟨g + 1, 0, none⟩), .pointer (some ⟨g + 2, 0, none⟩), .pointer (some ⟨g, 0, none⟩), .pointer (some ⟨g + 4, 0, none⟩)])) (first | exact HS0.out | exact HS7.out) ((go_at_call 82; have hP6 := HP4.out.next HV.out (below_drew (Below.refl W5.heap.size W5)); go_loud (refine (HREC.out V4 _ hP6).mono ?_); rintro e w7 ⟨rfl, v7, hP7⟩; have HS7 : Aside0 (w7.cell? ⟨g + 4, 0, none⟩ = some (.func (.func 82) #[] #[.pointer (some ⟨g + 3, 0, none⟩), .pointer (some ⟨g + 1, 0, none⟩), .pointer (some ⟨g + 2, 0, none⟩), .pointer (some ⟨g, 0, none⟩), .pointer (some ⟨g + 4, 0, none⟩)])) := ⟨(cells1 hP7.co).1⟩; have HP7 := Aside0.mk hP7; clear hP7 hP6))
              clear eg hor hp2 HS0 HREC HP4 HOR HP2
              obtain ⟨A7, c7, hv7, hc7, _⟩ := Kd.R_reads HP7.out.row
              rw [show (now ++ [(k : Int)]).length = now.length + 1 from by simp] at hv7 hc7
              subst hv7
              obtain ⟨l7, lf7⟩ := cells1 HP7.out.cr
              have hn9 : now.length ≤ 1000 := by omega
              go_wp2
              go_roundg (l.length - (k + 1))
              case measure => omega
              case rel => exact ⟨k + 1, _, by omega, by omega, by go_num, ⟨HP7.out.cut HV.out (m := now.length) (by simp) (by simp)⟩⟩
    · have hltz : ¬ (k : Int) < (l.length : Int) := by omega
      have hke : k = l.length := by omega
      subst hke
      have hZ : foldV step s (onK l fr d now at_ met fe l.length) = Z := HZ.out
      go_wp2
      try rw [Exit.noGoto_ret]
      go_ret
      exact ⟨rfl, _, by rw [← hZ]; exact HP.out⟩
end Go.Proofs.Ytaegldcifhgnmaa.A

/- The rings: all of them are gone through. -/
namespace Go.Proofs.Ytaegldcifhgnmaa.A
open Go.RowKit Go.Proofs.YtaegldcifhgnmaaW.PrintWords Go.Proofs.YtaegldcifhgnmaaW.PrintMore
variable {σ : Type} {Inv : σ → (Nat → Prop) → World → Prop} {step : σ → List Int → Nat → σ} {S0 : Nat → Prop} {w0 W : World} {g n : Nat} {A : Option Addr} {c : Nat} {l : List S39} {long gf : Nat} {lb : Array Value} {fr : Nat}
theorem on_all (hv : Visitor gf lb step Inv) (hlong : long ≤ 1000) (hsm : smallT l) (hl : l.length ≤ 60) : ∀ d, OnSaid Inv step S0 w0 g n A c l long gf lb fr d
  | 0 => on_zero hv hlong
  | d + 1 => on_step hv hlong hsm hl d (on_all hv hlong hsm hl d)

def RingsPost (Inv : σ → (Nat → Prop) → World → Prop) (s : σ) (S0 : Nat → Prop) (w : World) (e : Ending) (w' : World) : Prop :=
  e = .returned (.bool false) ∧ ∃ S', Inv s S' w' ∧ (∀ k, S' k → S0 k ∨ w.heap.size ≤ k) ∧ Fw S0 w w'

theorem RSt.weaken {PB : List (Nat × Obj)} {v : Value} {now : List Int} {s : σ} (h : RSt Inv S0 w0 g n A c l long gf lb PB v now s W) : RSt Inv S0 w0 g n A c l long gf lb [] v now s W := by
  obtain ⟨S, h1, h2, h3, _⟩ := h.inv
  exact ⟨h.fw, h.cn, h.cl, h.cv, h.cr, h.co, h.row, ⟨S, h1, h2, h3, fun q hq => absurd hq (List.not_mem_nil)⟩, fun q hq => absurd hq (List.not_mem_nil), fun q hq => absurd hq (List.not_mem_nil), fun q hq => absurd hq (List.not_mem_nil), h.ct, h.ca, h.s0, h.wg⟩
theorem RSt.protect {v : Value} {now : List Int} {s : σ} (hv : Visitor gf lb step Inv) (h : RSt Inv S0 w0 g n A c l long gf lb [] v now s W) (o1 o2 : Obj) : RSt Inv S0 w0 g n A c l long gf lb [(W.heap.size, o1), (W.heap.size + 1, o2)] v now s ((W.alloc o1).alloc o2) := by
  have hb : Below W.heap.size W ((W.alloc o1).alloc o2) := below_alloc (below_alloc (Below.refl _ _) _) _
  have h' := h.next hv hb
  have hbig := h.big
  obtain ⟨S, h1, h2, h3, _⟩ := h'.inv
  obtain ⟨S1, k1, k2, k3, _⟩ := h.inv
  have hs1 : (W.alloc o1).heap.size = W.heap.size + 1 := by simp
  have e1 : ((W.alloc o1).alloc o2).heap[W.heap.size]? = some o1 := ((below_alloc (Below.refl _ _) o2 : Below (W.alloc o1).heap.size (W.alloc o1) _).block _ (by omega)).trans (heap_alloc_new W o1)
  have e2 : ((W.alloc o1).alloc o2).heap[W.heap.size + 1]? = some o2 := by have := heap_alloc_new (W.alloc o1) o2; rwa [hs1] at this
  have hvo : ∀ k, W.heap.size ≤ k → some k ≠ v.ownBlock := fun k hk e => by have := Kd.R_lt h.row k e.symm; omega
  have hmem : ∀ q ∈ [(W.heap.size, o1), (W.heap.size + 1, o2)], q = (W.heap.size, o1) ∨ q = (W.heap.size + 1, o2) := fun q hq => by simpa using hq
  refine ⟨h'.fw, h'.cn, h'.cl, h'.cv, h'.cr, h'.co, h'.row, ⟨S1, hv.keep k1 (fun k hk => hb.block k (hv.lt k1 k hk)), k2, k3, fun q hq hs => ?_⟩, fun q hq => ?_, fun q hq => ?_, fun q hq => ?_, h'.ct, h'.ca, h'.s0, h'.wg⟩
  · have := hv.lt k1 _ hs
    rcases hmem q hq with rfl | rfl
    · exact absurd this (Nat.lt_irrefl _)
    · dsimp only at this; omega
  · rcases hmem q hq with rfl | rfl
    · exact e1
    · exact e2
  · rcases hmem q hq with rfl | rfl
    · exact hvo _ (Nat.le_refl _)
    · exact hvo _ (Nat.le_succ _)
  · rcases hmem q hq with rfl | rfl
    · dsimp only; omega
    · dsimp only; omega
theorem RSt.start (hv : Visitor gf lb step Inv) {s : σ} (hI : Inv s S0 W) (hr : Kd.C k39 W A l.length l) (hca : ∀ ad, A = some ad → 0 < l.length → ¬ S0 ad.block) :
    RSt Inv S0 W W.heap.size n A c l long gf lb [] (.slice none 0 0) [] s (((((W.alloc (.cells #[.int .i64 n, .slice A l.length c] 59)).alloc (.cells #[.int .i64 long] 3)).alloc (.cells #[.func (.func gf) #[] lb] 81)).alloc (.cells #[.slice none 0 0] 28)).alloc (.cells #[.func (.func 82) #[] #[.pointer (some ⟨W.heap.size + 1 + 1 + 1, 0, none⟩), .pointer (some ⟨W.heap.size + 1, 0, none⟩), .pointer (some ⟨W.heap.size + 1 + 1, 0, none⟩), .pointer (some ⟨W.heap.size, 0, none⟩), .pointer (some ⟨W.heap.size + 1 + 1 + 1 + 1, 0, none⟩)]] 95)) := by
  have hb : Below W.heap.size W (((((W.alloc (.cells #[.int .i64 n, .slice A l.length c] 59)).alloc (.cells #[.int .i64 long] 3)).alloc (.cells #[.func (.func gf) #[] lb] 81)).alloc (.cells #[.slice none 0 0] 28)).alloc (.cells #[.func (.func 82) #[] #[.pointer (some ⟨W.heap.size + 1 + 1 + 1, 0, none⟩), .pointer (some ⟨W.heap.size + 1, 0, none⟩), .pointer (some ⟨W.heap.size + 1 + 1, 0, none⟩), .pointer (some ⟨W.heap.size, 0, none⟩), .pointer (some ⟨W.heap.size + 1 + 1 + 1 + 1, 0, none⟩)]] 95)) := below_alloc (below_alloc (below_alloc (below_alloc (below_alloc (Below.refl _ _) _) _) _) _) _
  have hlt : ∀ k, S0 k → k < W.heap.size := hv.lt hI
  refine ⟨Fw.of_below hb, ?_, ?_, ?_, ?_, ?_, Kd.R_nil _ _ _ _ _, ⟨S0, hv.keep hI (fun k hk => hb.block k (hlt k hk)), fun k hk => .inl hk, fun k _ e => by simp [Value.ownBlock] at e, fun q hq => absurd hq (List.not_mem_nil)⟩, fun q hq => absurd hq (List.not_mem_nil), fun q hq => absurd hq (List.not_mem_nil), fun q hq => absurd hq (List.not_mem_nil), Kd.C_below hr hb, fun ad e hp => ⟨?_, hca ad e hp⟩, hlt, Nat.le_refl _⟩
  · exact blk_alloc (blk_alloc (blk_alloc (blk_alloc (heap_alloc_new W _) _) _) _) _
  · refine blk_alloc (blk_alloc (blk_alloc ?_ _) _) _
    have := heap_alloc_new (W.alloc (.cells #[.int .i64 n, .slice A l.length c] 59)) (.cells #[.int .i64 long] 3)
    simpa using this
  · refine blk_alloc (blk_alloc ?_ _) _
    have := heap_alloc_new ((W.alloc (.cells #[.int .i64 n, .slice A l.length c] 59)).alloc (.cells #[.int .i64 long] 3)) (.cells #[.func (.func gf) #[] lb] 81)
    simpa using this
  · refine blk_alloc ?_ _
    have := heap_alloc_new (((W.alloc (.cells #[.int .i64 n, .slice A l.length c] 59)).alloc (.cells #[.int .i64 long] 3)).alloc (.cells #[.func (.func gf) #[] lb] 81)) (.cells #[.slice none 0 0] 28)
    simpa using this
  · have := heap_alloc_new ((((W.alloc (.cells #[.int .i64 n, .slice A l.length c] 59)).alloc (.cells #[.int .i64 long] 3)).alloc (.cells #[.func (.func gf) #[] lb] 81)).alloc (.cells #[.slice none 0 0] 28)) (.cells #[.func (.func 82) #[] #[.pointer (some ⟨W.heap.size + 1 + 1 + 1, 0, none⟩), .pointer (some ⟨W.heap.size + 1, 0, none⟩), .pointer (some ⟨W.heap.size + 1 + 1, 0, none⟩), .pointer (some ⟨W.heap.size, 0, none⟩), .pointer (some ⟨W.heap.size + 1 + 1 + 1 + 1, 0, none⟩)]] 95)
    rw [show ((((W.alloc (.cells #[.int .i64 n, .slice A l.length c] 59)).alloc (.cells #[.int .i64 long] 3)).alloc (.cells #[.func (.func gf) #[] lb] 81)).alloc (.cells #[.slice none 0 0] 28)).heap.size = W.heap.size + 4 by simp] at this
    exact this
  · obtain ⟨ad', e', hx, _⟩ := at_T39 hr 0 (by omega) (by omega)
    rw [e] at e'
    cases e'
    have := World.block_lt_of_cell? W _ hx
    rwa [add_block] at this
theorem RSt.post {PB : List (Nat × Obj)} {v : Value} {now : List Int} {s : σ} (h : RSt Inv S0 W W.heap.size n A c l long gf lb PB v now s w0) : RingsPost Inv s S0 W (.returned (.bool false)) w0 := by
  obtain ⟨S, h1, h2, h3, _⟩ := h.inv
  exact ⟨rfl, S, h1, fun k hk => (h2 k hk).elim .inl (fun h => .inr (by omega)), h.fw⟩

theorem fromA {k a b d : Nat} {f : Bool} (h : l.getD k z39 = ⟨a, b, f⟩) : fromF l d k a = onF l a d [(k : Int)] b (2 ^ a ||| 2 ^ b) (feT ⟨a, b, f⟩) := by
  unfold fromF
  rw [h]
  have : toT ⟨(a : Int), (b : Int), f⟩ a = b := by unfold toT; dsimp only; omega
  rw [this]; rfl
theorem fromB {k a b d : Nat} {f : Bool} (h : l.getD k z39 = ⟨a, b, f⟩) : fromF l d k b = onF l b d [(k : Int)] a (2 ^ a ||| 2 ^ b) (feT ⟨a, b, f⟩) := by
  unfold fromF
  rw [h]
  have : toT ⟨(a : Int), (b : Int), f⟩ b = a := by unfold toT; dsimp only; omega
  rw [this]; rfl
theorem rings_two {k a b d : Nat} {f : Bool} {s : σ} (h : l.getD k z39 = ⟨a, b, f⟩) : foldV step s (ringsK l d (k + 1)) = foldV step (foldV step (foldV step s (ringsK l d k)) (fromF l d k a)) (fromF l d k b) := by
  rw [ringsK_succ, h]
  dsimp only
  rw [Int.toNat_natCast, Int.toNat_natCast, foldV_append, foldV_append]

set_option maxRecDepth 100000 in
set_option maxHeartbeats 3200000 in
theorem rings_calls (hv : Visitor gf lb step Inv) (d : Nat) (hd : d ≤ 900) (hld : long = d + 1) (hsm : smallT l) (hl : l.length ≤ 60) (s : σ) (w : World) (hI : Inv s S0 w) (hr : Kd.C k39 w A l.length l) (hca : ∀ ad, A = some ad → 0 < l.length → ¬ S0 ad.block) :
    Calls Try.prog 65 #[.agg #[.int .i64 n, .slice A l.length c], .int .i64 long, .func (.func gf) #[] lb] w (RingsPost Inv (foldV step s (ringsF l d)) S0 w) := by
  have HV := Aside0.mk hv
  have HS := Aside0.mk hsm
  have HLD := Aside0.mk hld
  have HST := Aside0.mk (RSt.start (n := n) (c := c) (long := long) hv hI hr hca)
  clear hv hI hr hca hsm hld
  go_enter Try.func65, Try.ntmps65
  go_wp2
  generalize hg : w.heap.size = g at HST ⊢
  have HG := Aside0.mk hg
  clear hg
  go_loopg [9, 10, 11, 13, 18] l.length (fun gg _ _ _ _ v18 wr => ∃ (k : Nat) (v : Value) (now : List Int), k ≤ l.length ∧ l.length - k ≤ gg ∧ v18 = .int .i64 k ∧ Aside0 (RSt Inv S0 w g n A c l long gf lb [] v now (foldV step s (ringsK l d k)) wr))
  case atStart => exact ⟨0, _, _, Nat.zero_le _, by omega, rfl, HST⟩
  case round =>
    clear HST
    obtain ⟨k, v, now, hk, hgg, rfl, HP⟩ := hrel
    by_cases hlt : k < l.length
    · have hltz : (k : Int) < (l.length : Int) := by omega
      obtain ⟨ad, had, hx0, hx1, hx2⟩ := at_T39 HP.out.ct (k : Int) (by omega) (by omega)
      subst had
      rw [Int.toNat_natCast] at hx0 hx1 hx2
      have hrd : rd_T39 l (k : Int) = l.getD k z39 := by simp [rd_T39]
      rw [hrd] at hx0 hx1 hx2
      have hts := HS.out _ (getD_mem z39 hlt)
      generalize hy : l.getD k z39 = y at hx0 hx1 hx2 hts
      obtain ⟨ya, yb, yf⟩ := y
      dsimp only at hx0 hx1 hx2 hts
      obtain ⟨h1, h2, h3, h4⟩ := hts
      obtain ⟨a, rfl⟩ := Int.eq_ofNat_of_zero_le h1
      obtain ⟨b, rfl⟩ := Int.eq_ofNat_of_zero_le h3
      have HY := Aside0.mk hy
      clear hy hrd h1 h3
      obtain ⟨n0, n1, _, _⟩ := cells2 HP.out.cn
      cases yf
      · go_wp2
        have HPP := Aside0.mk (HP.out.protect HV.out (.cells #[.int .i64 a, .int .i64 b, .bool false] 39) (.cells #[.int .i64 a, .int .i64 b] 3))
        obtain ⟨h, hh⟩ : ∃ h, h = wr.heap.size := ⟨_, rfl⟩
        obtain ⟨PB, hPB⟩ : ∃ PB, [(h, Obj.cells #[.int .i64 a, .int .i64 b, .bool false] 39), (h + 1, Obj.cells #[.int .i64 a, .int .i64 b] 3)] = PB := ⟨_, rfl⟩
        have HPB := Aside0.mk hPB
        rw [← hh] at HPP ⊢
        rw [hPB] at HPP
        have HSB : Aside0 (∃ sa sb, foldV step (foldV step s (ringsK l d k)) (fromF l d k a) = sa ∧ foldV step sa (fromF l d k b) = sb) := ⟨_, _, rfl, rfl⟩
        obtain ⟨sa, sb, hsa, hsb⟩ := HSB.out
        have HSA := Aside0.mk hsa
        have HSB := Aside0.mk hsb
        clear hPB hh hsa hsb n0 n1 hx0 hx1 hx2
        obtain ⟨wo, rfl⟩ : ∃ wo : World, wo = wr := ⟨_, rfl⟩
        go_loopg [13, 31] 2 (fun g2 _ v31 wr => ∃ (j : Nat) (v2 : Value) (now2 : List Int), j ≤ 2 ∧ 2 - j ≤ g2 ∧ v31 = .int .i64 j ∧ Aside0 (RSt Inv S0 w g n (some ad) c l long gf lb PB v2 now2 (if j = 0 then foldV step s (ringsK l d k) else if j = 1 then sa else sb) wr))
        case atStart => exact ⟨0, _, _, Nat.zero_le _, by omega, rfl, HPP⟩
        case round =>
          clear HPP HP
          obtain ⟨j, v2, now2, hj, hg2, rfl, HQ⟩ := hrel
          have hj3 : j = 0 ∨ j = 1 ∨ j = 2 := by omega
          rcases hj3 with rfl | rfl | rfl
          · have hjz : ((0 : Nat) : Int) < 2 := by decide
            obtain ⟨A1, c1, hv1, hc1, _⟩ := Kd.R_reads HQ.out.row
            subst hv1
            obtain ⟨l3', lf3'⟩ := cells1 HQ.out.cr
            have l3 : wr.cell? ⟨g + 1 + 1 + 1, 0, none⟩ = some (.slice A1 now2.length c1) := l3'
            have lf3 : wr.frozen? ⟨g + 1 + 1 + 1, 0, none⟩ = false := lf3'
            have hlt3 : g + 1 + 1 + 1 < wr.heap.size := by have := HQ.out.big; omega
            have hpc := HQ.out.pc
            rw [← HPB.out] at hpc
            have hq1 := hpc _ (List.mem_cons_self)
            have hq2 := hpc _ (List.mem_cons_of_mem _ (List.mem_cons_self))
            dsimp only at hq1 hq2
            obtain ⟨q0, q1, _, _⟩ := cells2 hq2
            obtain ⟨t0, t1, _, _, _, _⟩ := cells3 hq1
            have HQ1 := Aside0.mk hq1
            have HQ0 : Aside0 (Kd.R (Kd.int .i64) 3 wr (g + 5) (fun _ => True) (.slice A1 0 c1) []) := ⟨HQ.out.cut' (m := 0) (Nat.zero_le _)⟩
            clear l3' lf3' hc1 hpc hq1 hq2
            go_wp2_with (at_builtin; go_must (refine Kd.R_append (Kd.int .i64) (w0 := wr) (g + 5) rfl (.tmp 36) (.tmp 38) 28 3 (.int .i64 0) 8 rfl Try.underlying28 info3 rfl (by decide) (by omega) (.slice A1 0 c1) [] (k : Int) [.int .i64 (k : Int)] (fun _ => True) (fun _ => False) rfl rfl rfl (fun _ hk => hk.elim) (fun _ _ => trivial) HQ0.out (Below.refl _ _) (by have := HQ.out.big; omega) (by decide) ?_; intro v4 w4 ho hbb hg4 hat; rw [own_slice_same (n' := now2.length) (c' := c1)] at hg4 hat; obtain ⟨A4, c4, hv4, hc4, _⟩ := Kd.R_reads ho; rw [show (([] : List Int) ++ [(k : Int)]).length = 1 from rfl] at hv4; subst hv4; have HP4 := Aside0.mk (HQ.out.store HV.out hg4 ho hat); have hk4 := (hg4.block _ (blk_lt HQ.out.cr) (fun e => by have := Kd.R_base HQ.out.row _ e.symm; omega)).trans HQ.out.cr; obtain ⟨l4', lf4'⟩ := cells1 hk4; have l4 : w4.cell? ⟨g + 1 + 1 + 1, 0, none⟩ = some (.slice A1 now2.length c1) := l4'; have lf4 : w4.frozen? ⟨g + 1 + 1 + 1, 0, none⟩ = false := lf4'; have hlt4 : g + 1 + 1 + 1 < w4.heap.size := Nat.lt_of_lt_of_le hlt3 hg4.size; clear ho hbb hg4 hat hk4 hc4 l3 lf3 t0 t1 l4' lf4'))
            obtain ⟨W5, hW5⟩ : ∃ W5, W5 = w4.setCell ⟨g + 1 + 1 + 1, 0, none⟩ (.slice A4 1 c4) := ⟨_, rfl⟩
            have HP5 : Aside0 (RSt Inv S0 w g n (some ad) c l long gf lb PB (.slice A4 1 c4) [(k : Int)] (foldV step s (ringsK l d k)) W5) := ⟨by rw [hW5]; exact HP4.out⟩
            rw [← hW5]
            clear hW5 l4 lf4 HP4 q0 q1 HQ1 HQ0
            have HSS : Aside0 (∀ v5 s5 W6, RSt Inv S0 w g n (some ad) c l long gf lb PB v5 [(k : Int)] s5 W6 → ((fun w' : World => w'.cell? ⟨g + 1 + 1 + 1 + 1, 0, none⟩ = some (.func (.func 82) #[] #[.pointer (some ⟨g + 3, 0, none⟩), .pointer (some ⟨g + 1, 0, none⟩), .pointer (some ⟨g + 2, 0, none⟩), .pointer (some ⟨g, 0, none⟩), .pointer (some ⟨g + 4, 0, none⟩)]) ∧ w'.cell? ⟨h, 0, none⟩ = some (.int .i64 (a : Int)) ∧ w'.cell? ⟨h, 1, none⟩ = some (.int .i64 (b : Int)))) W6) := ⟨fun v5 s5 W6 h6 => by
              have hpc := h6.pc
              rw [← HPB.out] at hpc
              have hq1 := hpc _ (List.mem_cons_self)
              obtain ⟨t0, t1, _, _, _, _⟩ := cells3 hq1
              exact ⟨(cells1 h6.co).1, t0, t1⟩⟩
            have HS0 : Aside0 (((fun w' : World => w'.cell? ⟨g + 1 + 1 + 1 + 1, 0, none⟩ = some (.func (.func 82) #[] #[.pointer (some ⟨g + 3, 0, none⟩), .pointer (some ⟨g + 1, 0, none⟩), .pointer (some ⟨g + 2, 0, none⟩), .pointer (some ⟨g, 0, none⟩), .pointer (some ⟨g + 4, 0, none⟩)]) ∧ w'.cell? ⟨h, 0, none⟩ = some (.int .i64 (a : Int)) ∧ w'.cell? ⟨h, 1, none⟩ = some (.int .i64 (b : Int)))) W5.drew) := ⟨HSS.out _ _ _ (HP5.out.next HV.out (below_drew (Below.refl W5.heap.size W5)))⟩
            have HREC : Aside0 (∀ W6, RSt Inv S0 w g n (some ad) c l long gf lb PB (.slice A4 1 c4) [(k : Int)] (foldV step s (ringsK l d k)) W6 → Calls Try.prog 82 #[.int .i64 a, .int .i64 b, .int .i64 (2 ^ a ||| 2 ^ b : Nat), .int .i64 0, .pointer (some ⟨g + 3, 0, none⟩), .pointer (some ⟨g + 1, 0, none⟩), .pointer (some ⟨g + 2, 0, none⟩), .pointer (some ⟨g, 0, none⟩), .pointer (some ⟨g + 4, 0, none⟩)] W6 (OnPost Inv S0 w g n (some ad) c l long gf lb PB [(k : Int)] sa)) := ⟨fun W6 h6 => by
              have := on_all (fr := a) HV.out (by have := HLD.out; omega) HS.out hl d PB [(k : Int)] b (2 ^ a ||| 2 ^ b) (feT ⟨a, b, false⟩) (.slice A4 1 c4) _ W6 h6 (by rw [HLD.out]; simp; omega) (goodL_one (by omega)) (by omega) (or_lt (Nat.pow_lt_pow_right (by decide) (by omega)) (Nat.pow_lt_pow_right (by decide) (by omega))) (by show 0 + d ≤ 1000; omega)
              rw [← fromA HY.out] at this
              rw [HSA.out] at this
              exact this⟩
            obtain ⟨M, hM⟩ : ∃ M, 2 ^ a ||| 2 ^ b = M := ⟨_, rfl⟩
            rw [hM] at HREC
            have hor : bits .or .i64 (2 ^ a) (2 ^ b) = (M : Int) := by rw [pow_cast, pow_cast, or64 (2 ^ a) (2 ^ b) (two_lt (by omega)) (two_lt (by omega)), hM]
            have hpa : IntKind.i64.wrap ((2 : Int) ^ a) = 2 ^ a := by rw [pow_cast]; exact wrap64_nat _ (Int.natCast_nonneg _) (by exact_mod_cast two_lt (show a < 62 by omega))
            have hpb : IntKind.i64.wrap ((2 : Int) ^ b) = 2 ^ b := by rw [pow_cast]; exact wrap64_nat _ (Int.natCast_nonneg _) (by exact_mod_cast two_lt (show b < 62 by omega))
            have hw1 : IntKind.i64.wrap ((a : Int) + (b : Int)) = (a : Int) + (b : Int) := wrap64_nat _ (by omega) (by omega)
            have hw2 : IntKind.i64.wrap (b : Int) = (b : Int) := wrap64_nat _ (by omega) (by omega)
            have hw3 : (a : Int) + (b : Int) - (a : Int) = (b : Int) := by omega
            have eg := enters82
            clear hM
            go_region_held3 (fun w' : World => w'.cell? ⟨g + 1 + 1 + 1 + 1, 0, none⟩ = some (.func (.func 82) #[] #[.pointer (some ⟨g + 3, 0, none⟩), .pointer (some ⟨g + 1, 0, none⟩), .pointer (some ⟨g + 2, 0, none⟩), .pointer (some ⟨g, 0, none⟩), .pointer (some ⟨g + 4, 0, none⟩)]) ∧ w'.cell? ⟨h, 0, none⟩ = some (.int .i64 (a : Int)) ∧ w'.cell? ⟨h, 1, none⟩ = some (.int .i64 (b : Int))) (first | exact HS0.out | exact HS7.out) ((go_at_call 82; go_must (have hP6 := HP5.out.next HV.out (below_drew (Below.refl W5.heap.size W5)); refine (HREC.out _ hP6).mono ?_; rintro e w7 ⟨rfl, v7, hP7⟩; have HS7 := Aside0.mk (HSS.out _ _ _ hP7); have HP7 := Aside0.mk hP7; clear hP7 hP6)))
            clear eg hor hpa hpb hw1 hw2 hw3 HS0 HREC HP5 HSS
            go_wp2
            go_roundg (2 - 1)
            case measure => omega
            case rel => exact ⟨1, _, _, by decide, by omega, by go_num, HP7⟩
          · have hjz : ((1 : Nat) : Int) < 2 := by decide
            obtain ⟨A1, c1, hv1, hc1, _⟩ := Kd.R_reads HQ.out.row
            subst hv1
            obtain ⟨l3', lf3'⟩ := cells1 HQ.out.cr
            have l3 : wr.cell? ⟨g + 1 + 1 + 1, 0, none⟩ = some (.slice A1 now2.length c1) := l3'
            have lf3 : wr.frozen? ⟨g + 1 + 1 + 1, 0, none⟩ = false := lf3'
            have hlt3 : g + 1 + 1 + 1 < wr.heap.size := by have := HQ.out.big; omega
            have hpc := HQ.out.pc
            rw [← HPB.out] at hpc
            have hq1 := hpc _ (List.mem_cons_self)
            have hq2 := hpc _ (List.mem_cons_of_mem _ (List.mem_cons_self))
            dsimp only at hq1 hq2
            obtain ⟨q0, q1, _, _⟩ := cells2 hq2
            obtain ⟨t0, t1, _, _, _, _⟩ := cells3 hq1
            have HQ1 := Aside0.mk hq1
            have HQ0 : Aside0 (Kd.R (Kd.int .i64) 3 wr (g + 5) (fun _ => True) (.slice A1 0 c1) []) := ⟨HQ.out.cut' (m := 0) (Nat.zero_le _)⟩
            clear l3' lf3' hc1 hpc hq1 hq2
            go_wp2_with (at_builtin; go_must (refine Kd.R_append (Kd.int .i64) (w0 := wr) (g + 5) rfl (.tmp 36) (.tmp 38) 28 3 (.int .i64 0) 8 rfl Try.underlying28 info3 rfl (by decide) (by omega) (.slice A1 0 c1) [] (k : Int) [.int .i64 (k : Int)] (fun _ => True) (fun _ => False) rfl rfl rfl (fun _ hk => hk.elim) (fun _ _ => trivial) HQ0.out (Below.refl _ _) (by have := HQ.out.big; omega) (by decide) ?_; intro v4 w4 ho hbb hg4 hat; rw [own_slice_same (n' := now2.length) (c' := c1)] at hg4 hat; obtain ⟨A4, c4, hv4, hc4, _⟩ := Kd.R_reads ho; rw [show (([] : List Int) ++ [(k : Int)]).length = 1 from rfl] at hv4; subst hv4; have HP4 := Aside0.mk (HQ.out.store HV.out hg4 ho hat); have hk4 := (hg4.block _ (blk_lt HQ.out.cr) (fun e => by have := Kd.R_base HQ.out.row _ e.symm; omega)).trans HQ.out.cr; obtain ⟨l4', lf4'⟩ := cells1 hk4; have l4 : w4.cell? ⟨g + 1 + 1 + 1, 0, none⟩ = some (.slice A1 now2.length c1) := l4'; have lf4 : w4.frozen? ⟨g + 1 + 1 + 1, 0, none⟩ = false := lf4'; have hlt4 : g + 1 + 1 + 1 < w4.heap.size := Nat.lt_of_lt_of_le hlt3 hg4.size; clear ho hbb hg4 hat hk4 hc4 l3 lf3 t0 t1 l4' lf4'))
            obtain ⟨W5, hW5⟩ : ∃ W5, W5 = w4.setCell ⟨g + 1 + 1 + 1, 0, none⟩ (.slice A4 1 c4) := ⟨_, rfl⟩
            have HP5 : Aside0 (RSt Inv S0 w g n (some ad) c l long gf lb PB (.slice A4 1 c4) [(k : Int)] sa W5) := ⟨by rw [hW5]; exact HP4.out⟩
            rw [← hW5]
            clear hW5 l4 lf4 HP4 q0 q1 HQ1 HQ0
            have HSS : Aside0 (∀ v5 s5 W6, RSt Inv S0 w g n (some ad) c l long gf lb PB v5 [(k : Int)] s5 W6 → ((fun w' : World => w'.cell? ⟨g + 1 + 1 + 1 + 1, 0, none⟩ = some (.func (.func 82) #[] #[.pointer (some ⟨g + 3, 0, none⟩), .pointer (some ⟨g + 1, 0, none⟩), .pointer (some ⟨g + 2, 0, none⟩), .pointer (some ⟨g, 0, none⟩), .pointer (some ⟨g + 4, 0, none⟩)]) ∧ w'.cell? ⟨h, 0, none⟩ = some (.int .i64 (a : Int)) ∧ w'.cell? ⟨h, 1, none⟩ = some (.int .i64 (b : Int)))) W6) := ⟨fun v5 s5 W6 h6 => by
              have hpc := h6.pc
              rw [← HPB.out] at hpc
              have hq1 := hpc _ (List.mem_cons_self)
              obtain ⟨t0, t1, _, _, _, _⟩ := cells3 hq1
              exact ⟨(cells1 h6.co).1, t0, t1⟩⟩
            have HS0 : Aside0 (((fun w' : World => w'.cell? ⟨g + 1 + 1 + 1 + 1, 0, none⟩ = some (.func (.func 82) #[] #[.pointer (some ⟨g + 3, 0, none⟩), .pointer (some ⟨g + 1, 0, none⟩), .pointer (some ⟨g + 2, 0, none⟩), .pointer (some ⟨g, 0, none⟩), .pointer (some ⟨g + 4, 0, none⟩)]) ∧ w'.cell? ⟨h, 0, none⟩ = some (.int .i64 (a : Int)) ∧ w'.cell? ⟨h, 1, none⟩ = some (.int .i64 (b : Int)))) W5.drew) := ⟨HSS.out _ _ _ (HP5.out.next HV.out (below_drew (Below.refl W5.heap.size W5)))⟩
            have HREC : Aside0 (∀ W6, RSt Inv S0 w g n (some ad) c l long gf lb PB (.slice A4 1 c4) [(k : Int)] sa W6 → Calls Try.prog 82 #[.int .i64 b, .int .i64 a, .int .i64 (2 ^ a ||| 2 ^ b : Nat), .int .i64 0, .pointer (some ⟨g + 3, 0, none⟩), .pointer (some ⟨g + 1, 0, none⟩), .pointer (some ⟨g + 2, 0, none⟩), .pointer (some ⟨g, 0, none⟩), .pointer (some ⟨g + 4, 0, none⟩)] W6 (OnPost Inv S0 w g n (some ad) c l long gf lb PB [(k : Int)] sb)) := ⟨fun W6 h6 => by
              have := on_all (fr := b) HV.out (by have := HLD.out; omega) HS.out hl d PB [(k : Int)] a (2 ^ a ||| 2 ^ b) (feT ⟨a, b, false⟩) (.slice A4 1 c4) _ W6 h6 (by rw [HLD.out]; simp; omega) (goodL_one (by omega)) (by omega) (or_lt (Nat.pow_lt_pow_right (by decide) (by omega)) (Nat.pow_lt_pow_right (by decide) (by omega))) (by show 0 + d ≤ 1000; omega)
              rw [← fromB HY.out] at this
              rw [HSB.out] at this
              exact this⟩
            obtain ⟨M, hM⟩ : ∃ M, 2 ^ a ||| 2 ^ b = M := ⟨_, rfl⟩
            rw [hM] at HREC
            have hor : bits .or .i64 (2 ^ a) (2 ^ b) = (M : Int) := by rw [pow_cast, pow_cast, or64 (2 ^ a) (2 ^ b) (two_lt (by omega)) (two_lt (by omega)), hM]
            have hpa : IntKind.i64.wrap ((2 : Int) ^ a) = 2 ^ a := by rw [pow_cast]; exact wrap64_nat _ (Int.natCast_nonneg _) (by exact_mod_cast two_lt (show a < 62 by omega))
            have hpb : IntKind.i64.wrap ((2 : Int) ^ b) = 2 ^ b := by rw [pow_cast]; exact wrap64_nat _ (Int.natCast_nonneg _) (by exact_mod_cast two_lt (show b < 62 by omega))
            have hw1 : IntKind.i64.wrap ((a : Int) + (b : Int)) = (a : Int) + (b : Int) := wrap64_nat _ (by omega) (by omega)
            have hw2 : IntKind.i64.wrap (a : Int) = (a : Int) := wrap64_nat _ (by omega) (by omega)
            have hw3 : (a : Int) + (b : Int) - (b : Int) = (a : Int) := by omega
            have eg := enters82
            clear hM
            go_region_held3 (fun w' : World => w'.cell? ⟨g + 1 + 1 + 1 + 1, 0, none⟩ = some (.func (.func 82) #[] #[.pointer (some ⟨g + 3, 0, none⟩), .pointer (some ⟨g + 1, 0, none⟩), .pointer (some ⟨g + 2, 0, none⟩), .pointer (some ⟨g, 0, none⟩), .pointer (some ⟨g + 4, 0, none⟩)]) ∧ w'.cell? ⟨h, 0, none⟩ = some (.int .i64 (a : Int)) ∧ w'.cell? ⟨h, 1, none⟩ = some (.int .i64 (b : Int))) (first | exact HS0.out | exact HS7.out) ((go_at_call 82; go_must (have hP6 := HP5.out.next HV.out (below_drew (Below.refl W5.heap.size W5)); refine (HREC.out _ hP6).mono ?_; rintro e w7 ⟨rfl, v7, hP7⟩; have HS7 := Aside0.mk (HSS.out _ _ _ hP7); have HP7 := Aside0.mk hP7; clear hP7 hP6)))
            clear eg hor hpa hpb hw1 hw2 hw3 HS0 HREC HP5 HSS
            go_wp2
            go_roundg (2 - 2)
            case measure => omega
            case rel => exact ⟨2, _, _, by decide, by omega, by go_num, HP7⟩
          · have hjz : ¬ ((2 : Nat) : Int) < 2 := by decide
            go_wp2
            go_roundg (l.length - (k + 1))
            case measure => omega
            case rel =>
              refine ⟨k + 1, v2, now2, by omega, by omega, by go_num, ⟨?_⟩⟩
              rw [rings_two HY.out, HSA.out, HSB.out]
              exact HQ.out.weaken
      · go_wp2
        have HPP := Aside0.mk (HP.out.protect HV.out (.cells #[.int .i64 a, .int .i64 b, .bool true] 39) (.cells #[.int .i64 a, .int .i64 b] 3))
        obtain ⟨h, hh⟩ : ∃ h, h = wr.heap.size := ⟨_, rfl⟩
        obtain ⟨PB, hPB⟩ : ∃ PB, [(h, Obj.cells #[.int .i64 a, .int .i64 b, .bool true] 39), (h + 1, Obj.cells #[.int .i64 a, .int .i64 b] 3)] = PB := ⟨_, rfl⟩
        have HPB := Aside0.mk hPB
        rw [← hh] at HPP ⊢
        rw [hPB] at HPP
        have HSB : Aside0 (∃ sa sb, foldV step (foldV step s (ringsK l d k)) (fromF l d k a) = sa ∧ foldV step sa (fromF l d k b) = sb) := ⟨_, _, rfl, rfl⟩
        obtain ⟨sa, sb, hsa, hsb⟩ := HSB.out
        have HSA := Aside0.mk hsa
        have HSB := Aside0.mk hsb
        clear hPB hh hsa hsb n0 n1 hx0 hx1 hx2
        obtain ⟨wo, rfl⟩ : ∃ wo : World, wo = wr := ⟨_, rfl⟩
        go_loopg [13, 31] 2 (fun g2 _ v31 wr => ∃ (j : Nat) (v2 : Value) (now2 : List Int), j ≤ 2 ∧ 2 - j ≤ g2 ∧ v31 = .int .i64 j ∧ Aside0 (RSt Inv S0 w g n (some ad) c l long gf lb PB v2 now2 (if j = 0 then foldV step s (ringsK l d k) else if j = 1 then sa else sb) wr))
        case atStart => exact ⟨0, _, _, Nat.zero_le _, by omega, rfl, HPP⟩
        case round =>
          clear HPP HP
          obtain ⟨j, v2, now2, hj, hg2, rfl, HQ⟩ := hrel
          have hj3 : j = 0 ∨ j = 1 ∨ j = 2 := by omega
          rcases hj3 with rfl | rfl | rfl
          · have hjz : ((0 : Nat) : Int) < 2 := by decide
            obtain ⟨A1, c1, hv1, hc1, _⟩ := Kd.R_reads HQ.out.row
            subst hv1
            obtain ⟨l3', lf3'⟩ := cells1 HQ.out.cr
            have l3 : wr.cell? ⟨g + 1 + 1 + 1, 0, none⟩ = some (.slice A1 now2.length c1) := l3'
            have lf3 : wr.frozen? ⟨g + 1 + 1 + 1, 0, none⟩ = false := lf3'
            have hlt3 : g + 1 + 1 + 1 < wr.heap.size := by have := HQ.out.big; omega
            have hpc := HQ.out.pc
            rw [← HPB.out] at hpc
            have hq1 := hpc _ (List.mem_cons_self)
            have hq2 := hpc _ (List.mem_cons_of_mem _ (List.mem_cons_self))
            dsimp only at hq1 hq2
            obtain ⟨q0, q1, _, _⟩ := cells2 hq2
            obtain ⟨t0, t1, _, _, _, _⟩ := cells3 hq1
            have HQ1 := Aside0.mk hq1
            have HQ0 : Aside0 (Kd.R (Kd.int .i64) 3 wr (g + 5) (fun _ => True) (.slice A1 0 c1) []) := ⟨HQ.out.cut' (m := 0) (Nat.zero_le _)⟩
            clear l3' lf3' hc1 hpc hq1 hq2
            go_wp2_with (at_builtin; go_must (refine Kd.R_append (Kd.int .i64) (w0 := wr) (g + 5) rfl (.tmp 36) (.tmp 38) 28 3 (.int .i64 0) 8 rfl Try.underlying28 info3 rfl (by decide) (by omega) (.slice A1 0 c1) [] (k : Int) [.int .i64 (k : Int)] (fun _ => True) (fun _ => False) rfl rfl rfl (fun _ hk => hk.elim) (fun _ _ => trivial) HQ0.out (Below.refl _ _) (by have := HQ.out.big; omega) (by decide) ?_; intro v4 w4 ho hbb hg4 hat; rw [own_slice_same (n' := now2.length) (c' := c1)] at hg4 hat; obtain ⟨A4, c4, hv4, hc4, _⟩ := Kd.R_reads ho; rw [show (([] : List Int) ++ [(k : Int)]).length = 1 from rfl] at hv4; subst hv4; have HP4 := Aside0.mk (HQ.out.store HV.out hg4 ho hat); have hk4 := (hg4.block _ (blk_lt HQ.out.cr) (fun e => by have := Kd.R_base HQ.out.row _ e.symm; omega)).trans HQ.out.cr; obtain ⟨l4', lf4'⟩ := cells1 hk4; have l4 : w4.cell? ⟨g + 1 + 1 + 1, 0, none⟩ = some (.slice A1 now2.length c1) := l4'; have lf4 : w4.frozen? ⟨g + 1 + 1 + 1, 0, none⟩ = false := lf4'; have hlt4 : g + 1 + 1 + 1 < w4.heap.size := Nat.lt_of_lt_of_le hlt3 hg4.size; clear ho hbb hg4 hat hk4 hc4 l3 lf3 t0 t1 l4' lf4'))
            obtain ⟨W5, hW5⟩ : ∃ W5, W5 = w4.setCell ⟨g + 1 + 1 + 1, 0, none⟩ (.slice A4 1 c4) := ⟨_, rfl⟩
            have HP5 : Aside0 (RSt Inv S0 w g n (some ad) c l long gf lb PB (.slice A4 1 c4) [(k : Int)] (foldV step s (ringsK l d k)) W5) := ⟨by rw [hW5]; exact HP4.out⟩
            rw [← hW5]
            clear hW5 l4 lf4 HP4 q0 q1 HQ1 HQ0
            have HSS : Aside0 (∀ v5 s5 W6, RSt Inv S0 w g n (some ad) c l long gf lb PB v5 [(k : Int)] s5 W6 → ((fun w' : World => w'.cell? ⟨g + 1 + 1 + 1 + 1, 0, none⟩ = some (.func (.func 82) #[] #[.pointer (some ⟨g + 3, 0, none⟩), .pointer (some ⟨g + 1, 0, none⟩), .pointer (some ⟨g + 2, 0, none⟩), .pointer (some ⟨g, 0, none⟩), .pointer (some ⟨g + 4, 0, none⟩)]) ∧ w'.cell? ⟨h, 0, none⟩ = some (.int .i64 (a : Int)) ∧ w'.cell? ⟨h, 1, none⟩ = some (.int .i64 (b : Int)))) W6) := ⟨fun v5 s5 W6 h6 => by
              have hpc := h6.pc
              rw [← HPB.out] at hpc
              have hq1 := hpc _ (List.mem_cons_self)
              obtain ⟨t0, t1, _, _, _, _⟩ := cells3 hq1
              exact ⟨(cells1 h6.co).1, t0, t1⟩⟩
            have HS0 : Aside0 (((fun w' : World => w'.cell? ⟨g + 1 + 1 + 1 + 1, 0, none⟩ = some (.func (.func 82) #[] #[.pointer (some ⟨g + 3, 0, none⟩), .pointer (some ⟨g + 1, 0, none⟩), .pointer (some ⟨g + 2, 0, none⟩), .pointer (some ⟨g, 0, none⟩), .pointer (some ⟨g + 4, 0, none⟩)]) ∧ w'.cell? ⟨h, 0, none⟩ = some (.int .i64 (a : Int)) ∧ w'.cell? ⟨h, 1, none⟩ = some (.int .i64 (b : Int)))) W5.drew) := ⟨HSS.out _ _ _ (HP5.out.next HV.out (below_drew (Below.refl W5.heap.size W5)))⟩
            have HREC : Aside0 (∀ W6, RSt Inv S0 w g n (some ad) c l long gf lb PB (.slice A4 1 c4) [(k : Int)] (foldV step s (ringsK l d k)) W6 → Calls Try.prog 82 #[.int .i64 a, .int .i64 b, .int .i64 (2 ^ a ||| 2 ^ b : Nat), .int .i64 1, .pointer (some ⟨g + 3, 0, none⟩), .pointer (some ⟨g + 1, 0, none⟩), .pointer (some ⟨g + 2, 0, none⟩), .pointer (some ⟨g, 0, none⟩), .pointer (some ⟨g + 4, 0, none⟩)] W6 (OnPost Inv S0 w g n (some ad) c l long gf lb PB [(k : Int)] sa)) := ⟨fun W6 h6 => by
              have := on_all (fr := a) HV.out (by have := HLD.out; omega) HS.out hl d PB [(k : Int)] b (2 ^ a ||| 2 ^ b) (feT ⟨a, b, true⟩) (.slice A4 1 c4) _ W6 h6 (by rw [HLD.out]; simp; omega) (goodL_one (by omega)) (by omega) (or_lt (Nat.pow_lt_pow_right (by decide) (by omega)) (Nat.pow_lt_pow_right (by decide) (by omega))) (by show 1 + d ≤ 1000; omega)
              rw [← fromA HY.out] at this
              rw [HSA.out] at this
              exact this⟩
            obtain ⟨M, hM⟩ : ∃ M, 2 ^ a ||| 2 ^ b = M := ⟨_, rfl⟩
            rw [hM] at HREC
            have hor : bits .or .i64 (2 ^ a) (2 ^ b) = (M : Int) := by rw [pow_cast, pow_cast, or64 (2 ^ a) (2 ^ b) (two_lt (by omega)) (two_lt (by omega)), hM]
            have hpa : IntKind.i64.wrap ((2 : Int) ^ a) = 2 ^ a := by rw [pow_cast]; exact wrap64_nat _ (Int.natCast_nonneg _) (by exact_mod_cast two_lt (show a < 62 by omega))
            have hpb : IntKind.i64.wrap ((2 : Int) ^ b) = 2 ^ b := by rw [pow_cast]; exact wrap64_nat _ (Int.natCast_nonneg _) (by exact_mod_cast two_lt (show b < 62 by omega))
            have hw1 : IntKind.i64.wrap ((a : Int) + (b : Int)) = (a : Int) + (b : Int) := wrap64_nat _ (by omega) (by omega)
            have hw2 : IntKind.i64.wrap (b : Int) = (b : Int) := wrap64_nat _ (by omega) (by omega)
            have hw3 : (a : Int) + (b : Int) - (a : Int) = (b : Int) := by omega
            have eg := enters82
            clear hM
            go_region_held3 (fun w' : World => w'.cell? ⟨g + 1 + 1 + 1 + 1, 0, none⟩ = some (.func (.func 82) #[] #[.pointer (some ⟨g + 3, 0, none⟩), .pointer (some ⟨g + 1, 0, none⟩), .pointer (some ⟨g + 2, 0, none⟩), .pointer (some ⟨g, 0, none⟩), .pointer (some ⟨g + 4, 0, none⟩)]) ∧ w'.cell? ⟨h, 0, none⟩ = some (.int .i64 (a : Int)) ∧ w'.cell? ⟨h, 1, none⟩ = some (.int .i64 (b : Int))) (first | exact HS0.out | exact HS7.out) ((go_at_call 82; go_must (have hP6 := HP5.out.next HV.out (below_drew (Below.refl W5.heap.size W5)); refine (HREC.out _ hP6).mono ?_; rintro e w7 ⟨rfl, v7, hP7⟩; have HS7 := Aside0.mk (HSS.out _ _ _ hP7); have HP7 := Aside0.mk hP7; clear hP7 hP6)))
            clear eg hor hpa hpb hw1 hw2 hw3 HS0 HREC HP5 HSS
            go_wp2
            go_roundg (2 - 1)
            case measure => omega
            case rel => exact ⟨1, _, _, by decide, by omega, by go_num, HP7⟩
          · have hjz : ((1 : Nat) : Int) < 2 := by decide
            obtain ⟨A1, c1, hv1, hc1, _⟩ := Kd.R_reads HQ.out.row
            subst hv1
            obtain ⟨l3', lf3'⟩ := cells1 HQ.out.cr
            have l3 : wr.cell? ⟨g + 1 + 1 + 1, 0, none⟩ = some (.slice A1 now2.length c1) := l3'
            have lf3 : wr.frozen? ⟨g + 1 + 1 + 1, 0, none⟩ = false := lf3'
            have hlt3 : g + 1 + 1 + 1 < wr.heap.size := by have := HQ.out.big; omega
            have hpc := HQ.out.pc
            rw [← HPB.out] at hpc
            have hq1 := hpc _ (List.mem_cons_self)
            have hq2 := hpc _ (List.mem_cons_of_mem _ (List.mem_cons_self))
            dsimp only at hq1 hq2
            obtain ⟨q0, q1, _, _⟩ := cells2 hq2
            obtain ⟨t0, t1, _, _, _, _⟩ := cells3 hq1
            have HQ1 := Aside0.mk hq1
            have HQ0 : Aside0 (Kd.R (Kd.int .i64) 3 wr (g + 5) (fun _ => True) (.slice A1 0 c1) []) := ⟨HQ.out.cut' (m := 0) (Nat.zero_le _)⟩
            clear l3' lf3' hc1 hpc hq1 hq2
            go_wp2_with (at_builtin; go_must (refine Kd.R_append (Kd.int .i64) (w0 := wr) (g + 5) rfl (.tmp 36) (.tmp 38) 28 3 (.int .i64 0) 8 rfl Try.underlying28 info3 rfl (by decide) (by omega) (.slice A1 0 c1) [] (k : Int) [.int .i64 (k : Int)] (fun _ => True) (fun _ => False) rfl rfl rfl (fun _ hk => hk.elim) (fun _ _ => trivial) HQ0.out (Below.refl _ _) (by have := HQ.out.big; omega) (by decide) ?_; intro v4 w4 ho hbb hg4 hat; rw [own_slice_same (n' := now2.length) (c' := c1)] at hg4 hat; obtain ⟨A4, c4, hv4, hc4, _⟩ := Kd.R_reads ho; rw [show (([] : List Int) ++ [(k : Int)]).length = 1 from rfl] at hv4; subst hv4; have HP4 := Aside0.mk (HQ.out.store HV.out hg4 ho hat); have hk4 := (hg4.block _ (blk_lt HQ.out.cr) (fun e => by have := Kd.R_base HQ.out.row _ e.symm; omega)).trans HQ.out.cr; obtain ⟨l4', lf4'⟩ := cells1 hk4; have l4 : w4.cell? ⟨g + 1 + 1 + 1, 0, none⟩ = some (.slice A1 now2.length c1) := l4'; have lf4 : w4.frozen? ⟨g + 1 + 1 + 1, 0, none⟩ = false := lf4'; have hlt4 : g + 1 + 1 + 1 < w4.heap.size := Nat.lt_of_lt_of_le hlt3 hg4.size; clear ho hbb hg4 hat hk4 hc4 l3 lf3 t0 t1 l4' lf4'))
            obtain ⟨W5, hW5⟩ : ∃ W5, W5 = w4.setCell ⟨g + 1 + 1 + 1, 0, none⟩ (.slice A4 1 c4) := ⟨_, rfl⟩
            have HP5 : Aside0 (RSt Inv S0 w g n (some ad) c l long gf lb PB (.slice A4 1 c4) [(k : Int)] sa W5) := ⟨by rw [hW5]; exact HP4.out⟩
            rw [← hW5]
            clear hW5 l4 lf4 HP4 q0 q1 HQ1 HQ0
            have HSS : Aside0 (∀ v5 s5 W6, RSt Inv S0 w g n (some ad) c l long gf lb PB v5 [(k : Int)] s5 W6 → ((fun w' : World => w'.cell? ⟨g + 1 + 1 + 1 + 1, 0, none⟩ = some (.func (.func 82) #[] #[.pointer (some ⟨g + 3, 0, none⟩), .pointer (some ⟨g + 1, 0, none⟩), .pointer (some ⟨g + 2, 0, none⟩), .pointer (some ⟨g, 0, none⟩), .pointer (some ⟨g + 4, 0, none⟩)]) ∧ w'.cell? ⟨h, 0, none⟩ = some (.int .i64 (a : Int)) ∧ w'.cell? ⟨h, 1, none⟩ = some (.int .i64 (b : Int)))) W6) := ⟨fun v5 s5 W6 h6 => by
              have hpc := h6.pc
              rw [← HPB.out] at hpc
              have hq1 := hpc _ (List.mem_cons_self)
              obtain ⟨t0, t1, _, _, _, _⟩ := cells3 hq1
              exact ⟨(cells1 h6.co).1, t0, t1⟩⟩
            have HS0 : Aside0 (((fun w' : World => w'.cell? ⟨g + 1 + 1 + 1 + 1, 0, none⟩ = some (.func (.func 82) #[] #[.pointer (some ⟨g + 3, 0, none⟩), .pointer (some ⟨g + 1, 0, none⟩), .pointer (some ⟨g + 2, 0, none⟩), .pointer (some ⟨g, 0, none⟩), .pointer (some ⟨g + 4, 0, none⟩)]) ∧ w'.cell? ⟨h, 0, none⟩ = some (.int .i64 (a : Int)) ∧ w'.cell? ⟨h, 1, none⟩ = some (.int .i64 (b : Int)))) W5.drew) := ⟨HSS.out _ _ _ (HP5.out.next HV.out (below_drew (Below.refl W5.heap.size W5)))⟩
            have HREC : Aside0 (∀ W6, RSt Inv S0 w g n (some ad) c l long gf lb PB (.slice A4 1 c4) [(k : Int)] sa W6 → Calls Try.prog 82 #[.int .i64 b, .int .i64 a, .int .i64 (2 ^ a ||| 2 ^ b : Nat), .int .i64 1, .pointer (some ⟨g + 3, 0, none⟩), .pointer (some ⟨g + 1, 0, none⟩), .pointer (some ⟨g + 2, 0, none⟩), .pointer (some ⟨g, 0, none⟩), .pointer (some ⟨g + 4, 0, none⟩)] W6 (OnPost Inv S0 w g n (some ad) c l long gf lb PB [(k : Int)] sb)) := ⟨fun W6 h6 => by
              have := on_all (fr := b) HV.out (by have := HLD.out; omega) HS.out hl d PB [(k : Int)] a (2 ^ a ||| 2 ^ b) (feT ⟨a, b, true⟩) (.slice A4 1 c4) _ W6 h6 (by rw [HLD.out]; simp; omega) (goodL_one (by omega)) (by omega) (or_lt (Nat.pow_lt_pow_right (by decide) (by omega)) (Nat.pow_lt_pow_right (by decide) (by omega))) (by show 1 + d ≤ 1000; omega)
              rw [← fromB HY.out] at this
              rw [HSB.out] at this
              exact this⟩
            obtain ⟨M, hM⟩ : ∃ M, 2 ^ a ||| 2 ^ b = M := ⟨_, rfl⟩
            rw [hM] at HREC
            have hor : bits .or .i64 (2 ^ a) (2 ^ b) = (M : Int) := by rw [pow_cast, pow_cast, or64 (2 ^ a) (2 ^ b) (two_lt (by omega)) (two_lt (by omega)), hM]
            have hpa : IntKind.i64.wrap ((2 : Int) ^ a) = 2 ^ a := by rw [pow_cast]; exact wrap64_nat _ (Int.natCast_nonneg _) (by exact_mod_cast two_lt (show a < 62 by omega))
            have hpb : IntKind.i64.wrap ((2 : Int) ^ b) = 2 ^ b := by rw [pow_cast]; exact wrap64_nat _ (Int.natCast_nonneg _) (by exact_mod_cast two_lt (show b < 62 by omega))
            have hw1 : IntKind.i64.wrap ((a : Int) + (b : Int)) = (a : Int) + (b : Int) := wrap64_nat _ (by omega) (by omega)
            have hw2 : IntKind.i64.wrap (a : Int) = (a : Int) := wrap64_nat _ (by omega) (by omega)
            have hw3 : (a : Int) + (b : Int) - (b : Int) = (a : Int) := by omega
            have eg := enters82
            clear hM
            go_region_held3 (fun w' : World => w'.cell? ⟨g + 1 + 1 + 1 + 1, 0, none⟩ = some (.func (.func 82) #[] #[.pointer (some ⟨g + 3, 0, none⟩), .pointer (some ⟨g + 1, 0, none⟩), .pointer (some ⟨g + 2, 0, none⟩), .pointer (some ⟨g, 0, none⟩), .pointer (some ⟨g + 4, 0, none⟩)]) ∧ w'.cell? ⟨h, 0, none⟩ = some (.int .i64 (a : Int)) ∧ w'.cell? ⟨h, 1, none⟩ = some (.int .i64 (b : Int))) (first | exact HS0.out | exact HS7.out) ((go_at_call 82; go_must (have hP6 := HP5.out.next HV.out (below_drew (Below.refl W5.heap.size W5)); refine (HREC.out _ hP6).mono ?_; rintro e w7 ⟨rfl, v7, hP7⟩; have HS7 := Aside0.mk (HSS.out _ _ _ hP7); have HP7 := Aside0.mk hP7; clear hP7 hP6)))
            clear eg hor hpa hpb hw1 hw2 hw3 HS0 HREC HP5 HSS
            go_wp2
            go_roundg (2 - 2)
            case measure => omega
            case rel => exact ⟨2, _, _, by decide, by omega, by go_num, HP7⟩
          · have hjz : ¬ ((2 : Nat) : Int) < 2 := by decide
            go_wp2
            go_roundg (l.length - (k + 1))
            case measure => omega
            case rel =>
              refine ⟨k + 1, v2, now2, by omega, by omega, by go_num, ⟨?_⟩⟩
              rw [rings_two HY.out, HSA.out, HSB.out]
              exact HQ.out.weaken
    · have hltz : ¬ (k : Int) < (l.length : Int) := by omega
      have hke : k = l.length := by omega
      subst hke
      have HZ : Aside0 (foldV step s (ringsK l d l.length) = foldV step s (ringsF l d)) := ⟨rfl⟩
      have HPP : Aside0 (RingsPost Inv (foldV step s (ringsK l d l.length)) S0 w (.returned (.bool false)) wr) := ⟨by have := HP.out; rw [← HG.out] at this; exact this.post⟩
      go_wp2
      go_ret
      rw [← HZ.out]
      exact HPP.out
end Go.Proofs.Ytaegldcifhgnmaa.A

/- slices.Compare at whole numbers. -/
namespace Go.Proofs.Ytaegldcifhgnmaa.A
open Go.RowKit Go.Proofs.YtaegldcifhgnmaaW.PrintWords Go.Proofs.YtaegldcifhgnmaaW.PrintMore
def cmpI (x y : Int) : Int := if x < y then -1 else if y < x then 1 else 0
/-- The order of lists. -/
def cmpL : List Int → List Int → Int
  | [], [] => 0
  | [], _ :: _ => -1
  | _ :: _, [] => 1
  | x :: xs, y :: ys => if cmpI x y = 0 then cmpL xs ys else cmpI x y

set_option maxRecDepth 100000 in
set_option maxHeartbeats 400000 in
theorem cmpI_calls (x y : Int) (w : World) : Calls Try.prog 83 #[.int .i64 x, .int .i64 y] w fun e w' => e = .returned (.int .i64 (cmpI x y)) ∧ w = w' := by
  obtain ⟨z, hz⟩ : ∃ z, cmpI x y = z := ⟨_, rfl⟩
  have HZ := Aside0.mk hz
  rw [hz]
  clear hz
  by_cases h1 : x < y
  · have : z = -1 := by rw [← HZ.out]; unfold cmpI; rw [if_pos h1]
    subst this
    go_enter Try.func83, Try.ntmps83
    go_wp2
    go_ret
    exact ⟨rfl, rfl⟩
  · by_cases h2 : y < x
    · have : z = 1 := by rw [← HZ.out]; unfold cmpI; rw [if_neg h1, if_pos h2]
      subst this
      go_enter Try.func83, Try.ntmps83
      go_wp2
      go_ret
      exact ⟨rfl, rfl⟩
    · have : z = 0 := by rw [← HZ.out]; unfold cmpI; rw [if_neg h1, if_neg h2]
      subst this
      go_enter Try.func83, Try.ntmps83
      go_wp2
      go_ret
      exact ⟨rfl, rfl⟩

theorem cmpL_drop {a b : List Int} {i : Nat} (ha : i < a.length) (hb : i < b.length) : cmpL (a.drop i) (b.drop i) = if cmpI (a.getD i 0) (b.getD i 0) = 0 then cmpL (a.drop (i + 1)) (b.drop (i + 1)) else cmpI (a.getD i 0) (b.getD i 0) := by
  rw [List.drop_eq_getElem_cons ha, List.drop_eq_getElem_cons hb, List.getD_eq_getElem?_getD, List.getD_eq_getElem?_getD, List.getElem?_eq_getElem ha, List.getElem?_eq_getElem hb]
  rfl
theorem cmpL_gt {a b : List Int} {i : Nat} (ha : i < a.length) (hb : b.length ≤ i) : cmpL (a.drop i) (b.drop i) = 1 := by
  rw [List.drop_eq_getElem_cons ha, List.drop_eq_nil_of_le hb]; rfl
theorem cmpL_end {a b : List Int} {i : Nat} (ha : a.length = i) (hb : i ≤ b.length) : cmpL (a.drop i) (b.drop i) = if (a.length : Int) < (b.length : Int) then -1 else 0 := by
  rw [List.drop_eq_nil_of_le (by omega)]
  by_cases h : i < b.length
  · rw [List.drop_eq_getElem_cons h, if_pos (by omega)]; rfl
  · rw [List.drop_eq_nil_of_le (by omega), if_neg (by omega)]; rfl

set_option maxRecDepth 100000 in
set_option maxHeartbeats 1600000 in
theorem Compare_calls (A : Option Addr) (c : Nat) (a : List Int) (A2 : Option Addr) (c2 : Nat) (b : List Int) (w : World) (hr : Kd.C (Kd.int .i64) w A a.length a) (hr2 : Kd.C (Kd.int .i64) w A2 b.length b) :
    Calls Try.prog 67 #[.slice A a.length c, .slice A2 b.length c2] w fun e w' => e = .returned (.int .i64 (cmpL a b)) ∧ w = w' := by
  have hma : a.length ≤ 9223372036854775807 := hr.2.1
  have hmb : b.length ≤ 9223372036854775807 := hr2.2.1
  have HR := Aside0.mk hr
  have HR2 := Aside0.mk hr2
  obtain ⟨Z, hZ⟩ : ∃ Z, cmpL a b = Z := ⟨_, rfl⟩
  have HZ := Aside0.mk hZ
  rw [hZ]
  clear hr hr2 hZ
  go_enter Try.func67, Try.ntmps67
  go_wp2
  go_loopg [5, 6, 7, 8, 11] a.length (fun gg _ _ _ _ v11 wr => ∃ i : Nat, i ≤ a.length ∧ a.length - i ≤ gg ∧ v11 = .int .i64 i ∧ wr = w ∧ Aside0 (i ≤ b.length ∧ cmpL (a.drop i) (b.drop i) = Z))
  case atStart => exact ⟨0, Nat.zero_le _, by omega, rfl, rfl, ⟨Nat.zero_le _, HZ.out⟩⟩
  case round =>
    obtain ⟨i, hi, hgg, rfl, rfl, HI⟩ := hrel
    by_cases hlt : i < a.length
    · have hltz : (i : Int) < (a.length : Int) := by omega
      obtain ⟨ad, rfl, hx⟩ := Kd.at_int HR.out (i : Int) (by omega) (by omega)
      rw [Int.toNat_natCast] at hx
      have hrd : rd a (i : Int) = a.getD i 0 := by simp [rd]
      rw [hrd] at hx
      clear hrd
      by_cases hbl : i < b.length
      · have hblz : ¬ (b.length : Int) ≤ (i : Int) := by omega
        have hblz2 : (i : Int) < (b.length : Int) := by omega
        obtain ⟨ad2, rfl, hy⟩ := Kd.at_int HR2.out (i : Int) (by omega) (by omega)
        rw [Int.toNat_natCast] at hy
        have hrd : rd b (i : Int) = b.getD i 0 := by simp [rd]
        rw [hrd] at hy
        have hd := HI.out.2
        rw [cmpL_drop hlt hbl] at hd
        clear hrd
        generalize a.getD i 0 = x at hx hd
        generalize b.getD i 0 = y at hy hd
        by_cases hc : cmpI x y = 0
        · rw [if_pos hc] at hd
          have HC := Aside0.mk hc
          have HD := Aside0.mk hd
          clear hc hd
          go_wp2_with (go_at_call 83; refine (cmpI_calls x y _).mono ?_; rw [HC.out]; rintro e w' ⟨rfl, rfl⟩)
          go_roundg (a.length - (i + 1))
          case measure => omega
          case rel => exact ⟨i + 1, by omega, by omega, by go_num, rfl, ⟨by omega, HD.out⟩⟩
        · rw [if_neg hc] at hd
          have hne : (Z != 0) = true := by rw [bne_iff_ne, ← hd]; exact hc
          have HD := Aside0.mk hd
          clear hc hd
          go_wp2_with (go_at_call 83; refine (cmpI_calls x y _).mono ?_; rw [HD.out]; rintro e w' ⟨rfl, rfl⟩)
          go_ret
          exact ⟨rfl, rfl⟩
      · have hblz : (b.length : Int) ≤ (i : Int) := by omega
        have HD : Aside0 (Z = 1) := ⟨by rw [← HI.out.2, cmpL_gt hlt (by omega)]⟩
        go_wp2
        go_ret
        exact ⟨by rw [HD.out]; rfl, rfl⟩
    · have hltz : ¬ (i : Int) < (a.length : Int) := by omega
      have HD : Aside0 (Z = if (a.length : Int) < (b.length : Int) then -1 else 0) := ⟨by rw [← HI.out.2, cmpL_end (by omega) HI.out.1]⟩
      by_cases hbl : (a.length : Int) < (b.length : Int)
      · go_wp2
        go_ret
        exact ⟨by rw [HD.out, if_pos hbl]; rfl, rfl⟩
      · have HZ0 : Aside0 (Z = 0) := ⟨by rw [HD.out, if_neg hbl]⟩
        go_wp2
        go_ret
        exact ⟨by rw [HZ0.out]; rfl, rfl⟩
end Go.Proofs.Ytaegldcifhgnmaa.A

/- slices.Clone at whole numbers. -/
namespace Go.Proofs.Ytaegldcifhgnmaa.A
open Go.RowKit Go.Proofs.YtaegldcifhgnmaaW.PrintWords Go.Proofs.YtaegldcifhgnmaaW.PrintMore
theorem clone_calls {A : Option Addr} {c : Nat} {l : List Int} {w : World} (hr : Kd.C (Kd.int .i64) w A l.length l) (hl : l.length ≤ 1000) (h0 : l ≠ []) :
    Calls Try.prog 68 #[.slice A l.length c] w fun e w' => ∃ v, e = .returned v ∧ Kd.R (Kd.int .i64) 3 w' w.heap.size (fun _ => True) v l ∧ Below w.heap.size w w' := by
  have hpos : 0 < l.length := List.length_pos_iff.2 h0
  obtain ⟨ad, hA, hcell⟩ : ∃ ad, A = some ad ∧ ∀ i : Nat, i < l.length → w.cell? (ad.add i) = some (.int .i64 (l.getD i 0)) := by
    obtain ⟨ad, e, _⟩ := Kd.at_int hr 0 (by omega) (by omega)
    refine ⟨ad, e, fun i hi => ?_⟩
    obtain ⟨ad', e', hc⟩ := Kd.at_int hr (i : Int) (by omega) (by omega)
    rw [e] at e'
    cases e'
    simpa [rd] using hc
  subst hA
  have hsp : ad.spot = none := by
    have := hcell 0 (by omega)
    unfold World.cell? at this
    split at this
    · split at this
      · cases this
      · rename_i hs
        cases hsp : ad.spot with
        | none => rfl
        | some s => exact absurd (by show (ad.add 0).spot.isSome = true; simp [Addr.add, hsp]) hs
    · cases this
  obtain ⟨b, o, s⟩ := ad
  simp only at hsp
  subst hsp
  have := Try.slices_Clone_int b o l.length c l w (Nat.le_refl _) (by omega) (fun j hj => by
    have := hcell j hj
    rwa [add_at] at this)
  rw [List.take_length] at this
  exact this.mono fun e w' ⟨v, h1, h2, _, h3⟩ => ⟨v, h1, Kd.R_of_own h2 (fun _ _ => trivial), h3⟩
end Go.Proofs.Ytaegldcifhgnmaa.A

/- The first ring for which something is true of its feuds: what is kept while rings are gone through. -/
namespace Go.Proofs.Ytaegldcifhgnmaa.A
open Go.RowKit Go.Proofs.YtaegldcifhgnmaaW.PrintWords Go.Proofs.YtaegldcifhgnmaaW.PrintMore
/-- A function value that says of a number of feuds whether something is true of it. -/
structure Says (gi : Nat) (p : Nat → Bool) : Prop where
  enters : ∀ args w, (callFunc gi args).run Try.prog w = .ok (.enter gi args) w
  call : ∀ (fe : Nat) (W : World), fe ≤ 1000 → Calls Try.prog gi #[.int .i64 fe] W fun e w' => e = .returned (.bool (p fe)) ∧ Below W.heap.size W w'

/-- The best list so far. -/
def stepB (p : Nat → Bool) (s : Option (List Int)) (now : List Int) (fe : Nat) : Option (List Int) :=
  if p fe && (match s with | none => true | some b => decide (cmpL now b < 0)) then some now else s

/-- What the memory holds. -/
def BestIs (gi bi bb : Nat) (s : Option (List Int)) (S : Nat → Prop) (W : World) : Prop :=
  ∃ vb : Value, W.heap[bi]? = some (.cells #[.func (.func gi) #[] #[]] 65 (0, 0)) ∧ W.heap[bb]? = some (.cells #[vb] 28 (0, 0)) ∧ (∀ k, S k ↔ k = bi ∨ k = bb ∨ some k = vb.ownBlock) ∧ bi < bb ∧
    (match s with | none => vb = .slice none 0 0 | some b => b ≠ [] ∧ b.length ≤ 1000 ∧ Kd.R (Kd.int .i64) 3 W (bb + 1) (fun _ => True) vb b)

theorem enters87 : ∀ args w, (callFunc 87 args).run Try.prog w = .ok (.enter 87 args) w := enters_of Try.func87 (by kernel_rfl) rfl

variable {gi bi bb : Nat} {p : Nat → Bool}
theorem best_lt {s : Option (List Int)} {S : Nat → Prop} {W : World} (h : BestIs gi bi bb s S W) (k : Nat) (hk : S k) : k < W.heap.size := by
  obtain ⟨vb, h1, h2, h3, h4, h5⟩ := h
  rcases (h3 k).1 hk with rfl | rfl | e
  · exact blk_lt h1
  · exact blk_lt h2
  · cases s with
    | none => subst h5; simp [Value.ownBlock] at e
    | some b => exact Kd.R_lt h5.2.2 k e.symm
theorem best_keep {s : Option (List Int)} {S : Nat → Prop} {W W' : World} (h : BestIs gi bi bb s S W) (hk : ∀ k, S k → W'.heap[k]? = W.heap[k]?) : BestIs gi bi bb s S W' := by
  obtain ⟨vb, h1, h2, h3, h4, h5⟩ := h
  refine ⟨vb, (hk bi ((h3 bi).2 (.inl rfl))).trans h1, (hk bb ((h3 bb).2 (.inr (.inl rfl)))).trans h2, h3, h4, ?_⟩
  cases s with
  | none => exact h5
  | some b =>
    refine ⟨h5.1, h5.2.1, ?_⟩
    obtain ⟨hok, inner, ho, hr⟩ := h5.2.2
    exact ⟨hok, inner, own_move ho (fun k e => hk k ((h3 k).2 (.inr (.inr e.symm)))), hr⟩
theorem best_new {S : Nat → Prop} {s : Option (List Int)} {W W2 : World} {v : Value} {now : List Int} (h : BestIs gi bi bb s S W) (hb : Below W.heap.size W W2) (hr : Kd.R (Kd.int .i64) 3 W2 W.heap.size (fun _ => True) v now) (hne : now ≠ []) (hl : now.length ≤ 1000) :
    ∃ S', BestIs gi bi bb (some now) S' (W2.setCell ⟨bb, 0, none⟩ v) ∧ (∀ k, S' k → S k ∨ W.heap.size ≤ k) ∧ Fw S W (W2.setCell ⟨bb, 0, none⟩ v) := by
  obtain ⟨vb, h1, h2, h3, h4, h5⟩ := h
  have hbl := blk_lt h2
  have e1 : (W2.setCell ⟨bb, 0, none⟩ v).heap[bi]? = some (.cells #[.func (.func gi) #[] #[]] 65 (0, 0)) := blk_far ((hb.block bi (by omega)).trans h1) (by show bi ≠ bb; omega) _
  have e2 : (W2.setCell ⟨bb, 0, none⟩ v).heap[bb]? = some (.cells #[v] 28 (0, 0)) := blk_set ((hb.block bb hbl).trans h2) 0 _
  have hrow : Kd.R (Kd.int .i64) 3 (W2.setCell ⟨bb, 0, none⟩ v) W.heap.size (fun _ => True) v now := by
    have h1 := Kd.R_bound hr
    exact Kd.R_mono (Kd.R_far h1 (fun k hk => by show k ≠ bb; have := hk.2.1; omega) v) (fun _ _ => trivial)
  refine ⟨fun k => k = bi ∨ k = bb ∨ some k = v.ownBlock, ⟨v, e1, e2, fun k => Iff.rfl, h4, hne, hl, Kd.R_lower hrow (by omega)⟩, fun k hk => ?_, ?_⟩
  · rcases hk with rfl | rfl | e
    · exact .inl ((h3 k).2 (.inl rfl))
    · exact .inl ((h3 k).2 (.inr (.inl rfl)))
    · exact .inr (Kd.R_base hr k e.symm)
  · have hot : (W2.setCell ⟨bb, 0, none⟩ v).os = W2.os ∧ (W2.setCell ⟨bb, 0, none⟩ v).tape = W2.tape ∧ (W2.setCell ⟨bb, 0, none⟩ v).output = W2.output ∧ (W2.setCell ⟨bb, 0, none⟩ v).heap.size = W2.heap.size := by
      unfold World.setCell; split <;> simp
    exact ⟨hot.1.trans hb.os, hot.2.1.trans hb.tape, hot.2.2.1.trans hb.output, by rw [hot.2.2.2]; exact hb.size, fun k hk hS => (Below.heap_setCell _ _ _ _ (fun e => hS ((h3 k).2 (.inr (.inl e))))).trans (hb.block k hk)⟩

def BestPost (gi bi bb : Nat) (p : Nat → Bool) (s : Option (List Int)) (S : Nat → Prop) (W : World) (now : List Int) (fe : Nat) (e : Ending) (w' : World) : Prop :=
  e = .returned (.bool false) ∧ ∃ S', BestIs gi bi bb (stepB p s now fe) S' w' ∧ (∀ k, S' k → S k ∨ W.heap.size ≤ k) ∧ Fw S W w'
theorem BestPost.stay {s : Option (List Int)} {S : Nat → Prop} {W w' : World} {now : List Int} {fe : Nat} (h : BestIs gi bi bb s S W) (hb : Below W.heap.size W w') (hs : stepB p s now fe = s) : BestPost gi bi bb p s S W now fe (.returned (.bool false)) w' :=
  ⟨rfl, S, by rw [hs]; exact best_keep h (fun k hk => hb.block k (best_lt h k hk)), fun _ h => .inl h, Fw.of_below hb⟩
theorem BestPost.turn {s : Option (List Int)} {S : Nat → Prop} {W W2 : World} {v : Value} {now : List Int} {fe : Nat} (h : BestIs gi bi bb s S W) (hb : Below W.heap.size W W2) (hr : Kd.R (Kd.int .i64) 3 W2 W.heap.size (fun _ => True) v now) (hne : now ≠ []) (hl : now.length ≤ 1000) (hs : stepB p s now fe = some now) : BestPost gi bi bb p s S W now fe (.returned (.bool false)) (W2.setCell ⟨bb, 0, none⟩ v) := by
  obtain ⟨S', h1, h2, h3⟩ := best_new h hb hr hne hl
  exact ⟨rfl, S', by rw [hs]; exact h1, h2, h3⟩

set_option maxRecDepth 100000 in
set_option maxHeartbeats 1600000 in
theorem visit_calls (hsay : Says gi p) (s : Option (List Int)) (S : Nat → Prop) (W : World) (A : Option Addr) (c : Nat) (now : List Int) (fe : Nat) (h : BestIs gi bi bb s S W) (hr : Kd.C (Kd.int .i64) W A now.length now) (hn : now.length ≤ 1000) (hne : now ≠ []) (hf : fe ≤ 1000) :
    Calls Try.prog 87 #[.slice A now.length c, .int .i64 fe, .pointer (some ⟨bi, 0, none⟩), .pointer (some ⟨bb, 0, none⟩)] W (BestPost gi bi bb p s S W now fe) := by
  have HH := Aside0.mk h
  have HR := Aside0.mk hr
  have HN := Aside0.mk hne
  have HS := Aside0.mk hsay
  have eg := hsay.enters
  obtain ⟨vb, h1, h2, h3, h4, h5⟩ := h
  obtain ⟨a0, _⟩ := cells1 h1
  obtain ⟨b0, bf0⟩ := cells1 h2
  have H2 := Aside0.mk h2
  clear h1 h2 h3 hr hne hsay
  cases hp : p fe with
  | false =>
    have HP := Aside0.mk hp
    have HST : Aside0 (stepB p s now fe = s) := ⟨by unfold stepB; rw [hp]; rfl⟩
    clear hp h5
    go_enter Try.func87, Try.ntmps87
    go_wp2_with (go_at_fn gi; go_must (refine (HS.out.call fe _ hf).mono ?_; rw [HP.out]; rintro e w2 ⟨rfl, hb2⟩; have HB2 := Aside0.mk hb2; clear hb2))
    go_ret
    exact BestPost.stay HH.out HB2.out HST.out
  | true =>
    have HP := Aside0.mk hp
    cases s with
    | none =>
      have HST : Aside0 (stepB p none now fe = some now) := ⟨by unfold stepB; rw [hp]; rfl⟩
      subst h5
      clear hp
      have hnil := fun (w : World) => run_eql_slice_nil w 28 3 none 0 0 Try.underlying28
      go_enter Try.func87, Try.ntmps87
      go_wp2_with (first
        | (go_at_fn gi; go_must (refine (HS.out.call fe _ hf).mono ?_; rw [HP.out]; rintro e w2 ⟨rfl, hb2⟩; have hbc := cells1 ((hb2.block bb (blk_lt H2.out)).trans H2.out); obtain ⟨b2, bf2⟩ := hbc; have HB2 := Aside0.mk hb2; clear hb2))
        | (go_at_call 68; go_must (refine (clone_calls (Kd.C_below HR.out HB2.out) hn HN.out).mono ?_; rintro e w3 ⟨v3, rfl, hr3, hb3⟩; have HR3 := Aside0.mk (Kd.R_lower hr3 HB2.out.size); obtain ⟨A3, c3, hv3, _, _⟩ := Kd.R_reads hr3; subst hv3; have HB3 := Aside0.mk (below_then HB2.out HB2.out.size hb3); obtain ⟨b3, bf3⟩ := cells1 ((HB3.out.block bb (blk_lt H2.out)).trans H2.out); clear hr3 hb3 b2 bf2)))
      go_ret
      exact BestPost.turn HH.out HB3.out HR3.out HN.out hn HST.out
    | some b =>
      obtain ⟨hbne, hbl, hrow⟩ := h5
      obtain ⟨g2, cap, hvb, _, _, _⟩ := Kd.R_form hrow (List.length_pos_iff.2 hbne)
      subst hvb
      have HRB := Aside0.mk (Kd.R_reads' hrow).2.2
      have hnil := fun (w : World) => run_eql_slice_nil w 28 3 (some ⟨g2, 0, none⟩) b.length cap Try.underlying28
      obtain ⟨z, hz⟩ : ∃ z, cmpL now b = z := ⟨_, rfl⟩
      have HC := Aside0.mk hz
      by_cases hlt : z < 0
      · have HST : Aside0 (stepB p (some b) now fe = some now) := ⟨by unfold stepB; rw [hp]; dsimp only; rw [if_pos (by rw [Bool.true_and]; exact decide_eq_true (by rw [hz]; exact hlt))]⟩
        clear hp hz hrow hbne
        go_enter Try.func87, Try.ntmps87
        go_wp2_with (first
          | (go_at_fn gi; go_must (refine (HS.out.call fe _ hf).mono ?_; rw [HP.out]; rintro e w2 ⟨rfl, hb2⟩; have hbc := cells1 ((hb2.block bb (blk_lt H2.out)).trans H2.out); obtain ⟨b2, bf2⟩ := hbc; have HB2 := Aside0.mk hb2; clear hb2))
          | (go_at_call 67; go_must (refine (Compare_calls A c now (some ⟨g2, 0, none⟩) cap b _ (Kd.C_below HR.out HB2.out) (Kd.C_below HRB.out HB2.out)).mono ?_; rw [HC.out]; rintro e w' ⟨rfl, rfl⟩))
          | (go_at_call 68; go_must (refine (clone_calls (Kd.C_below HR.out HB2.out) hn HN.out).mono ?_; rintro e w3 ⟨v3, rfl, hr3, hb3⟩; have HR3 := Aside0.mk (Kd.R_lower hr3 HB2.out.size); obtain ⟨A3, c3, hv3, _, _⟩ := Kd.R_reads hr3; subst hv3; have HB3 := Aside0.mk (below_then HB2.out HB2.out.size hb3); obtain ⟨b3, bf3⟩ := cells1 ((HB3.out.block bb (blk_lt H2.out)).trans H2.out); clear hr3 hb3 b2 bf2)))
        go_ret
        exact BestPost.turn HH.out HB3.out HR3.out HN.out hn HST.out
      · have HST : Aside0 (stepB p (some b) now fe = some b) := ⟨by unfold stepB; rw [hp]; dsimp only; rw [if_neg (by rw [Bool.true_and]; intro h; have := of_decide_eq_true h; rw [hz] at this; exact hlt this)]⟩
        clear hp hz hrow hbne
        go_enter Try.func87, Try.ntmps87
        go_wp2_with (first
          | (go_at_fn gi; go_must (refine (HS.out.call fe _ hf).mono ?_; rw [HP.out]; rintro e w2 ⟨rfl, hb2⟩; have hbc := cells1 ((hb2.block bb (blk_lt H2.out)).trans H2.out); obtain ⟨b2, bf2⟩ := hbc; have HB2 := Aside0.mk hb2; clear hb2))
          | (go_at_call 67; go_must (refine (Compare_calls A c now (some ⟨g2, 0, none⟩) cap b _ (Kd.C_below HR.out HB2.out) (Kd.C_below HRB.out HB2.out)).mono ?_; rw [HC.out]; rintro e w' ⟨rfl, rfl⟩)))
        go_ret
        exact BestPost.stay HH.out HB2.out HST.out

theorem best_visitor (hsay : Says gi p) : Visitor 87 #[.pointer (some ⟨bi, 0, none⟩), .pointer (some ⟨bb, 0, none⟩)] (stepB p) (BestIs gi bi bb) where
  enters := enters87
  lt := best_lt
  keep := best_keep
  call A c now fe hI hr hn _ hne hf _ := visit_calls hsay _ _ _ A c now fe hI hr hn hne.1 hf
end Go.Proofs.Ytaegldcifhgnmaa.A

/- find: the first list of a ring with the fewest ties for which something is true of its feuds. -/
namespace Go.Proofs.Ytaegldcifhgnmaa.A
open Go.RowKit Go.Proofs.YtaegldcifhgnmaaW.PrintWords Go.Proofs.YtaegldcifhgnmaaW.PrintMore
/-- The first of n numbers that gives something. -/
def firstN {α : Type} (f : Nat → Option α) : Nat → Option α
  | 0 => none
  | k + 1 => match firstN f k with
    | some r => some r
    | none => f k
theorem firstN_succ_none {α : Type} {f : Nat → Option α} {k : Nat} (h : firstN f k = none) : firstN f (k + 1) = f k := by rw [firstN, h]
theorem firstN_hit {α : Type} {f : Nat → Option α} {k : Nat} {r : α} (h : firstN f k = some r) : ∀ j, firstN f (k + j) = some r
  | 0 => h
  | j + 1 => by
    show firstN f ((k + j) + 1) = some r
    rw [firstN, firstN_hit h j]
theorem firstN_some {α : Type} {f : Nat → Option α} {k m : Nat} {r : α} (hk : k < m) (h0 : firstN f k = none) (h1 : f k = some r) : firstN f m = some r := by
  have h2 : firstN f (k + 1) = some r := by rw [firstN_succ_none h0, h1]
  have := firstN_hit h2 (m - (k + 1))
  rwa [show k + 1 + (m - (k + 1)) = m by omega] at this
theorem firstN_none {α : Type} {f : Nat → Option α} : ∀ k, (∀ i, i < k → f i = none) → firstN f k = none
  | 0, _ => rfl
  | k + 1, h => by rw [firstN_succ_none (firstN_none k fun i hi => h i (by omega))]; exact h k (by omega)

/-- The best list with a number of ties. -/
def bestN (p : Nat → Bool) (l : List S39) (long : Nat) : Option (List Int) := foldV (stepB p) none (ringsF l (long - 1))
def bestA (p : Nat → Bool) (l : List S39) (long : Nat) : Option (List Int) := if 3 ≤ long then bestN p l long else none
def findF (p : Nat → Bool) (l : List S39) (n : Nat) : Option (List Int) := firstN (bestA p l) (n + 1)

def FindPost (S : Option (List Int)) (w : World) (e : Ending) (w' : World) : Prop :=
  ∃ v : Value, e = .returned v ∧ Kd.R (Kd.int .i64) 3 w' w.heap.size (fun _ => True) v (S.getD []) ∧ (S = none → v = .slice none 0 0) ∧ (S ≠ none → ∃ b n c, v = .slice (some b) n c) ∧ Below w.heap.size w w'

theorem find_start (w : World) (n : Int) (v : Value) (gi : Nat) :
    ((w.alloc (.cells #[.int .i64 n, v] 59)).alloc (.cells #[.func (.func gi) #[] #[]] 65)).heap[w.heap.size]? = some (.cells #[.int .i64 n, v] 59 (0, 0)) ∧ ((w.alloc (.cells #[.int .i64 n, v] 59)).alloc (.cells #[.func (.func gi) #[] #[]] 65)).heap[w.heap.size + 1]? = some (.cells #[.func (.func gi) #[] #[]] 65 (0, 0)) ∧ Below w.heap.size w ((w.alloc (.cells #[.int .i64 n, v] 59)).alloc (.cells #[.func (.func gi) #[] #[]] 65)) := by
  refine ⟨blk_alloc (heap_alloc_new w _) _, ?_, below_alloc (below_alloc (Below.refl _ _) _) _⟩
  have := heap_alloc_new (w.alloc (.cells #[.int .i64 n, v] 59)) (.cells #[.func (.func gi) #[] #[]] 65)
  simpa using this

set_option maxRecDepth 100000 in
set_option maxHeartbeats 1600000 in
theorem find_calls (gi : Nat) (p : Nat → Bool) (hsay : Says gi p) (n : Nat) (hn : n ≤ 800) (A : Option Addr) (c : Nat) (l : List S39) (hsm : smallT l) (hl : l.length ≤ 60) (w : World) (hr : Kd.C k39 w A l.length l) :
    Calls Try.prog 76 #[.agg #[.int .i64 n, .slice A l.length c], .func (.func gi) #[] #[]] w (FindPost (findF p l n) w) := by
  have HS := Aside0.mk hsay
  have HSM := Aside0.mk hsm
  have HR := Aside0.mk hr
  have HST := Aside0.mk (find_start w n (.slice A l.length c) gi)
  obtain ⟨Z, hZ⟩ : ∃ Z, findF p l n = Z := ⟨_, rfl⟩
  have HZ := Aside0.mk hZ
  rw [hZ]
  have hca : Aside0 (∀ ad, A = some ad → 0 < l.length → ad.block < w.heap.size) := ⟨fun ad e hp => by
    obtain ⟨ad', e', hx, _⟩ := at_T39 hr 0 (by omega) (by omega)
    rw [e] at e'
    cases e'
    have := World.block_lt_of_cell? w _ hx
    rwa [add_block] at this⟩
  clear hsay hsm hr hZ
  go_enter Try.func76, Try.ntmps76
  go_wp2
  generalize hg : w.heap.size = g at HST hca ⊢
  have HG := Aside0.mk hg
  clear hg
  go_loopg [5, 6] (n + 1) (fun gg v5 _ wr => ∃ k : Nat, 3 ≤ k ∧ n + 1 - k ≤ gg ∧ v5 = .int .i64 k ∧ k ≤ n + 3 ∧ Aside0 (wr.heap[g]? = some (.cells #[.int .i64 n, .slice A l.length c] 59 (0, 0)) ∧ wr.heap[g + 1]? = some (.cells #[.func (.func gi) #[] #[]] 65 (0, 0)) ∧ Below g w wr) ∧ Aside0 (firstN (bestA p l) (min k (n + 1)) = none))
  case atStart => exact ⟨3, Nat.le_refl _, by omega, rfl, by omega, HST, ⟨firstN_none _ fun i hi => by unfold bestA; rw [if_neg (by omega)]⟩⟩
  case round =>
    clear HST
    obtain ⟨k, hk, hgg, rfl, hkn, HI, AF⟩ := hrel
    obtain ⟨n0, n1, _, _⟩ := cells2 HI.out.1
    by_cases hlt : k ≤ n
    · have hltz : (k : Int) ≤ (n : Int) := by omega
      obtain ⟨S, hS⟩ : ∃ S, bestN p l k = S := ⟨_, rfl⟩
      have HSS := Aside0.mk hS
      have hg1 := blk_lt HI.out.2.1
      have hz : g ≤ wr.heap.size := by omega
      have hb1 : Below wr.heap.size wr (wr.alloc (.cells #[.slice none 0 0] 28)) := below_alloc (Below.refl _ _) _
      have hI1 : BestIs gi (g + 1) wr.heap.size none (fun k => k = g + 1 ∨ k = wr.heap.size) (wr.alloc (.cells #[.slice none 0 0] 28)) := ⟨.slice none 0 0, (hb1.block _ hg1).trans HI.out.2.1, heap_alloc_new _ _, fun k => by simp [Value.ownBlock], by omega, rfl⟩
      have hcall := Aside0.mk (rings_calls (n := n) (c := c) (A := A) (best_visitor HS.out) (k - 1) (by omega) (show k = k - 1 + 1 by omega) HSM.out hl none (wr.alloc (.cells #[.slice none 0 0] 28)) hI1 (Kd.C_below (Kd.C_below HR.out (by rw [HG.out]; exact HI.out.2.2)) hb1) (fun ad e hp hs => by have := hca.out ad e hp; rcases hs with hs | hs <;> omega))
      have hS2 : foldV (stepB p) none (ringsF l (k - 1)) = S := hS
      rw [hS2] at hcall
      have HI1 : Aside0 (Below g w (wr.alloc (.cells #[.slice none 0 0] 28)) ∧ (wr.alloc (.cells #[.slice none 0 0] 28)).heap[g]? = some (.cells #[.int .i64 n, .slice A l.length c] 59 (0, 0)) ∧ (wr.alloc (.cells #[.slice none 0 0] 28)).heap.size = wr.heap.size + 1 ∧ g + 1 < wr.heap.size) := ⟨(HI.out.2.2.trans (hb1.mono hz)), (hb1.block _ (by omega)).trans HI.out.1, by simp, hg1⟩
      have hg0 : g < wr.heap.size := by omega
      clear hS hI1 hb1 hS2
      go_wp2_with (go_at_call 65; go_must (refine hcall.out.mono ?_; rintro e w2 ⟨rfl, S', k1, k2, k3⟩; have K1 := Aside0.mk k1; have K3 := Aside0.mk k3; obtain ⟨vb, _, hvb, _, _, _⟩ := k1; obtain ⟨v0, _⟩ := cells1 hvb; have HVB := Aside0.mk hvb; clear k2 k3 hvb))
      have hB2 : Aside0 (Below g w w2) := ⟨(HI1.out.1.trans (K3.out.below (B := g) (by have := HI1.out.2.2.1; have := HI1.out.2.2.2; omega) (fun k hk => by have := HI1.out.2.2.2; rcases hk with hk | hk <;> omega)))⟩
      have hN2 : Aside0 (w2.heap[g]? = some (.cells #[.int .i64 n, .slice A l.length c] 59 (0, 0))) := ⟨(K3.out.block g (by have := HI1.out.2.2.1; omega) (fun hk => by have := HI1.out.2.2.2; rcases hk with hk | hk <;> omega)).trans HI1.out.2.1⟩
      cases S with
      | none =>
        obtain ⟨vb', k1, k2, k3, k4, k5⟩ := K1.out
        have hv0 := Aside0.mk ((blk_cell k2 0).symm.trans (blk_cell HVB.out 0))
        have hvn : vb = .slice none 0 0 := by have := hv0.out; simp at this; rw [← this]; exact k5
        subst hvn
        have K11 := Aside0.mk k1
        have hnil := fun (w : World) => run_neq_slice_nil_any w 28 3 none 0 0 0 0 Try.underlying28
        clear k1 k2 k3 k4 k5 hv0 K1
        go_wp2
        go_roundg (n + 1 - (k + 1))
        case measure => omega
        case rel =>
          refine ⟨k + 1, by omega, by omega, by go_num, by omega, ⟨hN2.out, K11.out, hB2.out⟩, ⟨?_⟩⟩
          have := AF.out
          rw [show min k (n + 1) = k by omega] at this
          rw [show min (k + 1) (n + 1) = k + 1 by omega, firstN_succ_none this, bestA, if_pos hk]
          exact HSS.out
      | some b =>
        obtain ⟨vb', k1, k2, k3, k4, k5, k6, k7⟩ := K1.out
        have hv0 := (blk_cell k2 0).symm.trans (blk_cell HVB.out 0)
        have hvn : vb' = vb := by simpa using hv0
        subst hvn
        obtain ⟨g2, cap, hv2, _, _, _⟩ := Kd.R_form k7 (List.length_pos_iff.2 k5)
        subst hv2
        have K7 := Aside0.mk k7
        have hnil := fun (w : World) => run_neq_slice_nil_any w 28 3 (some ⟨g2, 0, none⟩) b.length cap 0 0 Try.underlying28
        have HZ1 : Aside0 (Z = some b) := ⟨by rw [← HZ.out, findF]; have := AF.out; rw [show min k (n + 1) = k by omega] at this; exact firstN_some (by omega) this (by rw [bestA, if_pos hk]; exact HSS.out)⟩
        clear k1 k2 k3 k4 k5 k6 k7 hv0 K1
        go_wp2
        go_ret
        rw [HZ1.out, ← HG.out]
        exact ⟨_, rfl, Kd.R_lower K7.out (by rw [HG.out]; have := HI1.out.2.2.2; omega), fun h => (by cases h), fun _ => ⟨_, _, _, rfl⟩, by rw [HG.out]; exact hB2.out⟩
    · have hltz : ¬ (k : Int) ≤ (n : Int) := by omega
      have HZ0 : Aside0 (Z = none) := ⟨by rw [← HZ.out, findF, ← AF.out, show min k (n + 1) = n + 1 by omega]⟩
      go_wp2
      go_ret
      rw [HZ0.out, ← HG.out]
      exact ⟨_, rfl, Kd.R_nil _ _ _ _ _, fun _ => rfl, fun h => absurd rfl h, by rw [HG.out]; exact HI.out.2.2⟩
end Go.Proofs.Ytaegldcifhgnmaa.A

/- Ring and Spoilt: what they return. -/
namespace Go.Proofs.Ytaegldcifhgnmaa.A
open Go.RowKit Go.Proofs.YtaegldcifhgnmaaW.PrintWords Go.Proofs.YtaegldcifhgnmaaW.PrintMore
def oddB (fe : Nat) : Bool := fe % 2 == 1
def oneB (fe : Nat) : Bool := fe == 1
theorem enters50 : ∀ args w, (callFunc 50 args).run Try.prog w = .ok (.enter 50 args) w := enters_of Try.func50 (by kernel_rfl) rfl
theorem says_odd : Says 50 oddB where
  enters := enters50
  call fe W hf := by
    have e : feuds_odd.f fe = some (oddB fe) := by
      unfold feuds_odd.f oddB
      rw [Int.tmod_eq_emod_of_nonneg (Int.natCast_nonneg _)]
      congr 1
      rw [Bool.eq_iff_iff, beq_iff_eq, beq_iff_eq]
      omega
    exact (feuds_odd.calls fe _ W e).mono fun _ _ ⟨a, b⟩ => ⟨a, b.below⟩
def ringZ (S : Option (List Int)) : List Int × Int := match S with
  | some b => (b, 0)
  | none => ([], 10)
def ringF (p : Nat → Bool) (n : Int) (l : List S39) : List Int × Int := if tiesE n l = 0 then ringZ (findF p l n.toNat) else ([], tiesE n l)
def FoundPost (Z : List Int × Int) (w : World) (e : Ending) (w' : World) : Prop :=
  ∃ v : Value, e = .returned (.tuple #[v, .int .i64 Z.2]) ∧ Kd.R (Kd.int .i64) 3 w' w.heap.size (fun _ => True) v Z.1 ∧ Below w.heap.size w w'

set_option maxRecDepth 100000 in
set_option maxHeartbeats 800000 in
theorem found_err (n : Int) (A : Option Addr) (c : Nat) (l : List S39) (u : Value) (w : World) (hr : Kd.C k39 w A l.length l) (E : Int) (h : tiesE n l = E) (h0 : E ≠ 0) :
    Calls Try.prog 49 #[.int .i64 n, .slice A l.length c, u] w (FoundPost ([], E) w) := by
  have HR := Aside0.mk hr
  have HE := Aside0.mk h
  have hg := errne h0
  have H0 := Aside0.mk h0
  clear hr h h0
  go_enter Try.func49, Try.ntmps49
  go_wp2_with (go_at_call 46; refine (read_err HR.out HE.out H0.out).mono ?_; rintro e w' ⟨rfl, hb'⟩; have HB := Aside0.mk hb'; clear hb')
  go_ret2
  exact ⟨_, rfl, Kd.R_nil _ _ _ _ _, below_alloc HB.out _⟩

set_option maxRecDepth 100000 in
set_option maxHeartbeats 800000 in
theorem found_good (gi : Nat) (p : Nat → Bool) (hsay : Says gi p) (m : Nat) (A : Option Addr) (c : Nat) (l : List S39) (w : World) (hr : Kd.C k39 w A l.length l) (h : tiesE m l = 0) :
    Calls Try.prog 49 #[.int .i64 m, .slice A l.length c, .func (.func gi) #[] #[]] w (FoundPost (ringZ (findF p l m)) w) := by
  have hm : m ≤ 8 := by have := (tiesE_parts h).1; omega
  have HR := Aside0.mk hr
  have HS := Aside0.mk (tiesE_small h)
  have HSA := Aside0.mk hsay
  have HL : Aside0 (l.length ≤ 60) := ⟨by have := (tiesE_parts h).2.1; omega⟩
  have HE := Aside0.mk h
  obtain ⟨S, hS⟩ : ∃ S, findF p l m = S := ⟨_, rfl⟩
  have HSS := Aside0.mk hS
  rw [hS]
  clear hr h hsay hS
  cases S with
  | none =>
    have hnil := fun (w : World) => run_neq_slice_nil_any w 28 3 none 0 0 0 0 Try.underlying28
    go_enter Try.func49, Try.ntmps49
    go_wp2_with (first
      | (go_at_call 46; refine (read_good HR.out HE.out).mono ?_; rintro e w1 ⟨rfl, hb1⟩; have HB1 := Aside0.mk (below_alloc hb1 (.cells #[.int .i64 (m : Int), .slice A l.length c] 59)); clear hb1)
      | (go_at_call 76; go_must (refine (find_calls gi p HSA.out m (by omega) A c l HS.out HL.out _ (Kd.C_below HR.out HB1.out)).mono ?_; rw [HSS.out]; rintro e w2 ⟨v2, rfl, hr2, hv0, hv1, hb2⟩; have HR2 := Aside0.mk (Kd.R_lower hr2 HB1.out.size); have HB2 := Aside0.mk (below_then HB1.out HB1.out.size hb2); clear hr2 hb2; obtain rfl := hv0 rfl; clear hv0 hv1)))
    go_ret2
    exact ⟨_, rfl, Kd.R_nil _ _ _ _ _, HB2.out⟩
  | some b =>
    go_enter Try.func49, Try.ntmps49
    go_wp2_with (first
      | (go_at_call 46; refine (read_good HR.out HE.out).mono ?_; rintro e w1 ⟨rfl, hb1⟩; have HB1 := Aside0.mk (below_alloc hb1 (.cells #[.int .i64 (m : Int), .slice A l.length c] 59)); clear hb1)
      | (go_at_call 76; go_must (refine (find_calls gi p HSA.out m (by omega) A c l HS.out HL.out _ (Kd.C_below HR.out HB1.out)).mono ?_; rw [HSS.out]; rintro e w2 ⟨v2, rfl, hr2, hv0, hv1, hb2⟩; have HR2 := Aside0.mk (Kd.R_lower hr2 HB1.out.size); have HB2 := Aside0.mk (below_then HB1.out HB1.out.size hb2); clear hr2 hb2; obtain ⟨ad, n2, c2, rfl⟩ := hv1 (by simp); have hnil := fun (w : World) => run_neq_slice_nil_any w 28 3 (some ad) n2 c2 0 0 Try.underlying28; clear hv0)))
    go_ret2
    exact ⟨_, rfl, HR2.out, HB2.out⟩

theorem found_calls (gi : Nat) (p : Nat → Bool) (hsay : Says gi p) (n : Int) (A : Option Addr) (c : Nat) (l : List S39) (w : World) (hr : Kd.C k39 w A l.length l) :
    Calls Try.prog 49 #[.int .i64 n, .slice A l.length c, .func (.func gi) #[] #[]] w (FoundPost (ringF p n l) w) := by
  unfold ringF
  by_cases h0 : tiesE n l = 0
  · have h1 := tiesE_parts h0
    obtain ⟨m, rfl⟩ : ∃ m : Nat, n = m := ⟨n.toNat, by omega⟩
    rw [if_pos h0, Int.toNat_natCast]
    exact found_good gi p hsay m A c l w hr h0
  · rw [if_neg h0]
    exact found_err n A c l _ w hr _ rfl h0

set_option maxRecDepth 100000 in
set_option maxHeartbeats 400000 in
theorem Ring_calls (n : Int) (A : Option Addr) (c : Nat) (l : List S39) (w : World) (hr : Kd.C k39 w A l.length l) :
    Calls Try.prog 20 #[.int .i64 n, .slice A l.length c] w (FoundPost (ringF oddB n l) w) := by
  have H := Aside0.mk (found_calls 50 oddB says_odd n A c l w hr)
  clear hr
  go_enter Try.func20, Try.ntmps20
  go_wp2_with (go_at_call 49; go_must (refine H.out.mono ?_; rintro e w' ⟨v, rfl, hr, hb⟩; have HR := Aside0.mk hr; have HB := Aside0.mk hb; clear hr hb))
  go_ret2
  exact ⟨_, rfl, HR.out, HB.out⟩
def feuds_Ring.f (a0 : Int) (l1 : List S39) : Option (List Int × Int) := some (ringF oddB a0 l1)
theorem feuds_Ring.calls (a0 : Int) (A1 : Option Addr) (c1 : Nat) (l1 : List S39) (r1 : List Int) (r2 : Int) (w : World) (hr1 : Kd.C k39 w A1 l1.length l1) (_hc1 : l1.length ≤ c1) (h : feuds_Ring.f a0 l1 = some (r1, r2)) :
    Calls Try.prog 20 #[.int .i64 a0, .slice A1 l1.length c1] w fun e w' => ∃ v0_ : Value, e = .returned (.tuple #[v0_, .int .i64 r2]) ∧ Kd.R (Kd.int .i64) 3 w' w.heap.size (fun _ => True) v0_ r1 ∧ Below w.heap.size w w' := by
  have h := Option.some.inj h
  have := Ring_calls a0 A1 c1 l1 w hr1
  rw [h] at this
  exact this
def feuds_Spoilt.f (a0 : Int) (l1 : List S39) : Option (List Int × Int) := some (ringF oneB a0 l1)
end Go.Proofs.Ytaegldcifhgnmaa.A

/- Apart: the map of the first list of each set of ties: what it holds while rings are gone through. -/
namespace Go.Proofs.Ytaegldcifhgnmaa.A
open Go.RowKit Go.Proofs.YtaegldcifhgnmaaW.PrintWords Go.Proofs.YtaegldcifhgnmaaW.PrintMore
/-! ### plain -/
/-- The set of a list's ties. -/
def setI (now : List Int) : Nat := now.foldl (fun s x => s ||| 2 ^ x.toNat) 0
theorem setI_snoc (now : List Int) (x : Int) : setI (now ++ [x]) = setI now ||| 2 ^ x.toNat := by unfold setI; rw [List.foldl_append]; rfl
theorem setI_lt {m : Nat} : ∀ {now : List Int}, (∀ x ∈ now, 0 ≤ x ∧ x < (m : Int)) → setI now < 2 ^ m := by
  have key : ∀ (now : List Int) (s : Nat), s < 2 ^ m → (∀ x ∈ now, 0 ≤ x ∧ x < (m : Int)) → now.foldl (fun s x => s ||| 2 ^ x.toNat) s < 2 ^ m := by
    intro now
    induction now with
    | nil => exact fun s hs _ => hs
    | cons x now ih =>
      intro s hs h
      have hx := h x List.mem_cons_self
      exact ih _ (or_lt hs (Nat.pow_lt_pow_right (by decide) (by omega))) fun y hy => h y (List.mem_cons_of_mem x hy)
  exact fun {now} h => key now 0 (Nat.two_pow_pos m) h
/-- The first lists, with one more list gone through. -/
def stepA (f : Nat → Option (List Int)) (now : List Int) (fe : Nat) : Nat → Option (List Int) :=
  if oddB fe && (match f (setI now) with | none => true | some b => decide (cmpL now b < 0)) then fun k => if k = setI now then some now else f k else f

/-! ### how a slice's head reads, as an element of a map -/
abbrev DU := DataW Unit
def hdD (g n c : Nat) : DU := .agg [.lit (.int .i64 g), .lit (.int .i64 n), .lit (.int .i64 c)]
theorem hdD_inj {g n c g' n' c' : Nat} (h : hdD g n c = hdD g' n' c') : g = g' ∧ n = n' ∧ c = c' := by
  unfold hdD at h
  injection h with h
  simp only [List.cons.injEq, DataW.lit.injEq, Lit.int.injEq, and_true, true_and] at h
  omega
def RV (v : Value) : Option (DU × List MemPlace) :=
  match v with
  | .slice (some a) n c => if a.off = 0 ∧ a.spot = none then some (hdD a.block n c, []) else none
  | .slice none n c => if n = 0 ∧ c = 0 then some (.nil, []) else none
  | _ => none
theorem RV_some (g n c : Nat) : RV (.slice (some ⟨g, 0, none⟩) n c) = some (hdD g n c, []) := by simp [RV]
theorem RV_nil : RV (.slice none 0 0) = some (.nil, []) := by simp [RV]
theorem RV_inv {v : Value} {y : DU × List MemPlace} (h : RV v = some y) : (v = .slice none 0 0 ∧ y = (.nil, [])) ∨ ∃ g n c, v = .slice (some ⟨g, 0, none⟩) n c ∧ y = (hdD g n c, []) := by
  unfold RV at h
  split at h
  · rename_i a n c
    split at h
    · rename_i h2
      obtain ⟨b, o, s⟩ := a
      simp only at h2
      obtain ⟨rfl, rfl⟩ := h2
      exact .inr ⟨b, n, c, rfl, (Option.some.inj h).symm⟩
    · cases h
  · rename_i n c
    split at h
    · rename_i h2
      obtain ⟨rfl, rfl⟩ := h2
      exact .inl ⟨rfl, (Option.some.inj h).symm⟩
    · cases h
  · cases h
theorem RV_hd {v : Value} {ps : List MemPlace} {g n c : Nat} (h : RV v = some (hdD g n c, ps)) : v = .slice (some ⟨g, 0, none⟩) n c := by
  rcases RV_inv h with ⟨_, e⟩ | ⟨g', n', c', rfl, e⟩
  · injection e with e1 _
    cases e1
  · injection e with e1 _
    obtain ⟨rfl, rfl, rfl⟩ := hdD_inj e1
    rfl

/-! ### keys -/
theorem keyed3 : Maps.Keyed Try.prog 3 := Maps.int_keyed Try.underlying3
theorem lit64 {k : Nat} (h : k < 2 ^ 60) : (Lit.int .i64 (k : Int)).wf = true := by
  have e1 : IntKind.i64.min = -9223372036854775808 := rfl
  have e2 : IntKind.i64.max = 9223372036854775807 := rfl
  simp only [Lit.wf, Bool.and_eq_true, decide_eq_true_iff, e1, e2]
  omega
theorem key64 {k : Nat} (h : k < 2 ^ 60) : keyOf Try.prog 3 (.int .i64 (k : Int)) = some (.int .i64 (k : Int)) := Maps.keyOf_int_mk Try.underlying3 (lit64 h)
theorem isKey64 {k : Nat} (h : k < 2 ^ 60) : WideAt.IsKeyLit (.int .i64 (k : Int)) := keyed3.key (key64 h)
theorem kl_ne {k k' : Nat} (h : k ≠ k') : (Lit.int .i64 (k : Int)) ≠ .int .i64 (k' : Int) := fun e => by
  injection e with _ e2
  omega

/-! ### the map -/
section
variable {w : World} {mb n : Nat} {D : DU}
theorem owns_tight (h : w.ownsMap Try.prog 3 RV mb n D) : w.ownsMap Try.prog 3 RV mb (Maps.size D) D := by
  obtain ⟨es, clock, hb, F, _, rfl⟩ := h
  refine ⟨es, clock, hb, F, ?_, rfl⟩
  show es.size ≤ List.length _
  rw [length_read]
  exact Nat.le_refl _
theorem owns_move {w' : World} (h : w.ownsMap Try.prog 3 RV mb n D) (hm : w'.heap[mb]? = w.heap[mb]?) : w'.ownsMap Try.prog 3 RV mb n D := by
  obtain ⟨es, clock, hb, F, hs, hD⟩ := h
  exact ⟨es, clock, hm.trans hb, F, hs, hD⟩
theorem nodup_short : ∀ (n : Nat) (L : List Nat), L.Nodup → (∀ x ∈ L, x < n) → L.length ≤ n
  | 0, L, _, h => by
    cases L with
    | nil => exact Nat.le_refl _
    | cons x L => exact absurd (h x List.mem_cons_self) (Nat.not_lt_zero x)
  | n + 1, L, hn, h => by
    by_cases hm : n ∈ L
    · have h1 := nodup_short n (L.erase n) (hn.erase n) (fun x hx => by
        have h2 := (List.Nodup.mem_erase_iff hn).mp hx
        have := h x h2.2
        have := h2.1
        omega)
      rw [List.length_erase_of_mem hm] at h1
      omega
    · have := nodup_short n L hn (fun x hx => by
        have h1 := h x hx
        have h2 : x ≠ n := fun e => hm (e ▸ hx)
        omega)
      omega
theorem owns_few (h : w.ownsMap Try.prog 3 RV mb n D) (hk : ∀ kl, Maps.has D kl = true → ∃ k : Nat, k < 2 ^ 60 ∧ kl = .int .i64 (k : Int)) : Maps.size D ≤ 2 ^ 60 := by
  obtain ⟨es, rfl, hp, hkl⟩ := h.entries keyed3
  rw [Maps.size_eq]
  have hn : ∀ p ∈ es, ∃ k : Nat, k < 2 ^ 60 ∧ p.1 = .int .i64 (k : Int) := fun p hp' => hk p.1 (by
    rw [Maps.has_eq, List.any_eq_true]
    exact ⟨p, hp', WideAt.sameKey_self (hkl p hp')⟩)
  have key : ∀ es : List (Lit × DU), es.Pairwise (fun p q => p.1 ≠ q.1) → (∀ p ∈ es, ∃ k : Nat, k < 2 ^ 60 ∧ p.1 = .int .i64 (k : Int)) → ∃ L : List Nat, L.length = es.length ∧ L.Nodup ∧ (∀ x ∈ L, x < 2 ^ 60) ∧ ∀ x ∈ L, ∃ p ∈ es, p.1 = .int .i64 (x : Int) := by
    intro es
    induction es with
    | nil => exact fun _ _ => ⟨[], rfl, List.nodup_nil, fun x hx => (by cases hx), fun x hx => (by cases hx)⟩
    | cons p es ih =>
      intro h1 h2
      obtain ⟨h3, h4⟩ := List.pairwise_cons.mp h1
      obtain ⟨L, h5, h6, h7, h8⟩ := ih h4 fun q hq => h2 q (List.mem_cons_of_mem p hq)
      obtain ⟨k, hk1, hk2⟩ := h2 p List.mem_cons_self
      refine ⟨k :: L, by rw [List.length_cons, List.length_cons, h5], List.nodup_cons.mpr ⟨fun hm => ?_, h6⟩, fun x hx => ?_, fun x hx => ?_⟩
      · obtain ⟨q, hq, e⟩ := h8 k hm
        exact h3 q hq (hk2.trans e.symm)
      · rcases List.mem_cons.mp hx with e | e
        · rw [e]; exact hk1
        · exact h7 x e
      · rcases List.mem_cons.mp hx with e | e
        · rw [e]; exact ⟨p, List.mem_cons_self, hk2⟩
        · obtain ⟨q, hq, e2⟩ := h8 x e
          exact ⟨q, List.mem_cons_of_mem p hq, e2⟩
  obtain ⟨L, h5, h6, h7, _⟩ := key es hp hn
  rw [← h5]
  exact nodup_short _ L h6 h7
end
/-- A row of numbers lies in a block of its own. -/
def RowAt (W : World) (g : Nat) (b : List Int) : Prop := (∃ cs, W.heap[g]? = some (.cells cs 3 (0, 0))) ∧ Kd.C (Kd.int .i64) W (some ⟨g, 0, none⟩) b.length b
theorem RowAt.move {W W' : World} {g : Nat} {b : List Int} (h : RowAt W g b) (hm : W'.heap[g]? = W.heap[g]?) : RowAt W' g b :=
  ⟨by obtain ⟨cs, e⟩ := h.1; exact ⟨cs, hm.trans e⟩, C_moveI h.2 fun ad e _ => by cases e; exact hm⟩
theorem RowAt.lt {W : World} {g : Nat} {b : List Int} (h : RowAt W g b) : g < W.heap.size := by obtain ⟨cs, e⟩ := h.1; exact blk_lt e
/-- What the memory holds: the cell cb holds the map in block mb, whose elements are the heads of rows of its own. -/
structure FirstIs (cb mb : Nat) (f : Nat → Option (List Int)) (S : Nat → Prop) (W : World) : Prop where
  cell : W.heap[cb]? = some (.cells #[.map (some mb)] 76 (0, 0))
  scb : S cb
  smb : S mb
  ne : cb ≠ mb
  lt : ∀ k, S k → k < W.heap.size
  map : ∃ D : DU, W.ownsMap Try.prog 3 RV mb (Maps.size D) D ∧ (∀ kl, Maps.has D kl = true → ∃ k : Nat, k < 2 ^ 60 ∧ kl = .int .i64 (k : Int) ∧ f k ≠ none) ∧
    ∀ k b, f k = some b → ∃ g c, k < 2 ^ 60 ∧ Maps.has D (.int .i64 (k : Int)) = true ∧ (∀ z, D.atKey (.int .i64 (k : Int)) z = hdD g b.length c) ∧ b ≠ [] ∧ b.length ≤ 1000 ∧ b.length ≤ c ∧ S g ∧ RowAt W g b
section
variable {cb mb : Nat} {f : Nat → Option (List Int)} {S : Nat → Prop} {W : World}
theorem first_keep {W' : World} (h : FirstIs cb mb f S W) (hk : ∀ k, S k → W'.heap[k]? = W.heap[k]?) : FirstIs cb mb f S W' := by
  obtain ⟨h1, h2, h3, h4, h5, D, h6, h7, h8⟩ := h
  refine ⟨(hk cb h2).trans h1, h2, h3, h4, fun k hS => ?_, D, owns_move h6 (hk mb h3), h7, fun k b hb => ?_⟩
  · have := hk k hS
    rw [Array.getElem?_eq_getElem (h5 k hS)] at this
    exact (Array.getElem?_eq_some_iff.1 this).1
  · obtain ⟨g, c, a1, a2, a3, a4, a5, a6, a7, a8⟩ := h8 k b hb
    exact ⟨g, c, a1, a2, a3, a4, a5, a6, a7, a8.move (hk g a7)⟩
/-- Behind a store of a new row. -/
theorem first_put {W2 W3 : World} {k g c : Nat} {now : List Int} (h : FirstIs cb mb f S W) (hb : Below W.heap.size W W2) {D : DU} (hD : W.ownsMap Try.prog 3 RV mb (Maps.size D) D)
    (hD1 : ∀ kl, Maps.has D kl = true → ∃ k : Nat, k < 2 ^ 60 ∧ kl = .int .i64 (k : Int) ∧ f k ≠ none)
    (hD2 : ∀ k b, f k = some b → ∃ g c, k < 2 ^ 60 ∧ Maps.has D (.int .i64 (k : Int)) = true ∧ (∀ z, D.atKey (.int .i64 (k : Int)) z = hdD g b.length c) ∧ b ≠ [] ∧ b.length ≤ 1000 ∧ b.length ≤ c ∧ S g ∧ RowAt W g b)
    (hk : k < 2 ^ 60) (hne : now ≠ []) (hl : now.length ≤ 1000) (hlc : now.length ≤ c) (hg : W.heap.size ≤ g) (hg2 : g < W2.heap.size) (hC : RowAt W2 g now)
    {m : Nat} (hown : W3.ownsMap Try.prog 3 RV mb m (D.put (.int .i64 (k : Int)) (hdD g now.length c))) (hgrow : W2.grownBy W3 (some mb)) :
    FirstIs cb mb (fun j => if j = k then some now else f j) (fun j => S j ∨ j = g) W3 ∧ Fw S W W3 := by
  have hmb := h.lt mb h.smb
  have hb3 : ∀ j, j < W2.heap.size → j ≠ mb → W3.heap[j]? = W2.heap[j]? := fun j hj hne => hgrow.block j hj (fun e => hne (by cases e; rfl))
  have hS3 : ∀ j, S j → j ≠ mb → W3.heap[j]? = W.heap[j]? := fun j hj hne => by
    have := h.lt j hj
    exact (hb3 j (Nat.lt_of_lt_of_le this hb.size) hne).trans (hb.block j this)
  refine ⟨⟨(hS3 cb h.scb h.ne).trans h.cell, Or.inl h.scb, Or.inl h.smb, h.ne, fun j hj => ?_, _, owns_tight hown, fun kl hkl => ?_, fun j b hj => ?_⟩, ?_⟩
  · have hsz := hgrow.size
    rcases hj with hj | rfl
    · have := h.lt j hj
      have := hb.size
      omega
    · omega
  · by_cases e : kl = .int .i64 (k : Int)
    · exact ⟨k, hk, e, by simp⟩
    · rw [Maps.has_put_other e] at hkl
      obtain ⟨j, hj, rfl, hf⟩ := hD1 kl hkl
      exact ⟨j, hj, rfl, by split <;> simp_all⟩
  · by_cases e : j = k
    · subst e
      simp only [if_true, Option.some.injEq] at hj
      subst hj
      exact ⟨g, c, hk, Maps.has_put_same hD.isMap (isKey64 hk) _, fun z => Maps.atKey_put_same hD.isMap (isKey64 hk) _ z, hne, hl, hlc, Or.inr rfl, hC.move (hb3 g hg2 (by omega))⟩
    · rw [if_neg e] at hj
      obtain ⟨g', c', a1, a2, a3, a4, a5, a6, a7, a8⟩ := hD2 j b hj
      have hkl : (Lit.int .i64 (j : Int)) ≠ .int .i64 (k : Int) := kl_ne e
      refine ⟨g', c', a1, by rw [Maps.has_put_other hkl]; exact a2, fun z => by rw [Maps.atKey_put_other hkl]; exact a3 z, a4, a5, a6, Or.inl a7, a8.move (hS3 g' a7 fun e3 => ?_)⟩
      -- the map's own block is no row
      obtain ⟨cs, e4⟩ := a8.1
      obtain ⟨es, clock, hbm, _⟩ := hD
      rw [e3, hbm] at e4
      cases e4
  · exact ⟨hgrow.os.trans hb.os, hgrow.tape.trans hb.tape, hgrow.output.trans hb.output, Nat.le_trans hb.size hgrow.size, fun j hj hn => (hb3 j (Nat.lt_of_lt_of_le hj hb.size) (fun e => hn (e ▸ h.smb))).trans (hb.block j hj)⟩
end
end Go.Proofs.Ytaegldcifhgnmaa.A

/- A list of ties is a ring: the program's question and the reference's are one (plain). -/
namespace Go.Proofs.Ytaegldcifhgnmaa.A
open Go.RowKit Go.Proofs.YtaegldcifhgnmaaW.PrintWords Go.Proofs.YtaegldcifhgnmaaW.PrintMore
def goodT (l : List S39) : Prop := ∀ t ∈ l, 0 ≤ t.f0 ∧ t.f0 < t.f1 ∧ t.f1 < 60
theorem tiesE_good {n : Int} {l : List S39} (h : tiesE n l = 0) : goodT l := by
  intro t ht
  obtain ⟨i, hi, e⟩ := List.getElem_of_mem ht
  have h1 := tiesE_parts h
  have h2 := okT_parts (okTies_parts h1.2.2 hi).1
  have hg : l.getD i z39 = t := by rw [List.getD_eq_getElem?_getD, List.getElem?_eq_getElem hi, e]; rfl
  rw [hg] at h2
  omega

/-- The tie of an index. -/
def tieA (l : List S39) (i : Int) : S39 := l.getD i.toNat z39
def inR (l : List S39) (i : Int) : Prop := 0 ≤ i ∧ i < (l.length : Int)
instance (l : List S39) (i : Int) : Decidable (inR l i) := inferInstanceAs (Decidable (_ ∧ _))
theorem tieA_good {l : List S39} (hg : goodT l) {i : Int} (h : inR l i) : 0 ≤ (tieA l i).f0 ∧ (tieA l i).f0 < (tieA l i).f1 ∧ (tieA l i).f1 < 60 := hg _ (getD_mem z39 (by unfold inR at h; omega))
/-- The drover that two ties have in common, as the program looks for it. -/
def comB (l : List S39) (i nx : Int) : Option Nat :=
  if inR l i ∧ inR l nx ∧ i ≠ nx then
    (if hasB (tieA l nx) (tieA l i).f0.toNat = true then some (tieA l i).f0.toNat else if hasB (tieA l nx) (tieA l i).f1.toNat = true then some (tieA l i).f1.toNat else none)
  else none
def nextI (r : List Int) (k : Nat) : Int := r.getD ((k + 1) % r.length) 0
def feA (l : List S39) (r : List Int) (k : Nat) : Nat := feT (tieA l (r.getD k 0))
def ringN (l : List S39) (r : List Int) : Nat → Nat → Nat → Nat → Int × Bool
  | 0, _, fe, _ => ((fe : Int), true)
  | d + 1, k, fe, met => match comB l (r.getD k 0) (nextI r k) with
    | none => (0, false)
    | some c => if met.testBit c = true then (0, false) else ringN l r d (k + 1) (fe + feA l r k) (met ||| 2 ^ c)
/-- The program's answer for a list. -/
def ringP (l : List S39) (r : List Int) : Int × Bool := if r.length < 3 then (0, false) else ringN l r r.length 0 0 0
/-- The other drover of a tie. -/
def otherN (t : S39) (v : Nat) : Option Nat := if t.f0 = (v : Int) then some t.f1.toNat else if t.f1 = (v : Int) then some t.f0.toNat else none
def walkN (l : List S39) (r : List Int) (fr : Nat) : Nat → Nat → Nat → Nat → Nat → Int × Bool
  | 0, _, at_, fe, _ => ((fe : Int), decide (at_ = fr))
  | d + 1, k, at_, fe, met => match otherN (tieA l (r.getD k 0)) at_ with
    | none => (0, false)
    | some v => if met.testBit v = true then (0, false) else walkN l r fr d (k + 1) v (fe + feA l r k) (met ||| 2 ^ v)
def walkF (l : List S39) (r : List Int) (fr : Nat) : Int × Bool := walkN l r fr r.length 0 fr 0 0
/-- The reference's answer for a list. -/
def isRingR (l : List S39) (r : List Int) : Int × Bool :=
  if r.length < 3 then (0, false) else if ∀ k, k < r.length → inR l (r.getD k 0) then
    (if (walkF l r (tieA l (r.getD 0 0)).f0.toNat).2 = true then walkF l r (tieA l (r.getD 0 0)).f0.toNat
     else if (walkF l r (tieA l (r.getD 0 0)).f1.toNat).2 = true then walkF l r (tieA l (r.getD 0 0)).f1.toNat else (0, false))
  else (0, false)
def feSum (l : List S39) (r : List Int) : Nat → Nat → Nat
  | 0, _ => 0
  | d + 1, k => feA l r k + feSum l r d (k + 1)

theorem or_bit {met c v : Nat} : (met ||| 2 ^ c).testBit v = (met.testBit v || decide (v = c)) := by
  rw [Nat.testBit_or, tb_two]
  congr 1
theorem ringN_fst (l : List S39) (r : List Int) : ∀ d k fe met, (ringN l r d k fe met).1 = if (ringN l r d k fe met).2 = true then ((fe + feSum l r d k : Nat) : Int) else 0 := by
  intro d
  induction d with
  | zero => intro k fe met; simp [ringN, feSum]
  | succ d ih =>
    intro k fe met
    rw [ringN, feSum]
    cases comB l (r.getD k 0) (nextI r k) with
    | none => simp
    | some c =>
      dsimp only
      by_cases h : met.testBit c = true
      · simp only [if_pos h]; simp
      · simp only [if_neg h]
        rw [ih, Nat.add_assoc]
theorem walkN_fst (l : List S39) (r : List Int) (fr : Nat) : ∀ d k at_ fe met, (walkN l r fr d k at_ fe met).2 = true → (walkN l r fr d k at_ fe met).1 = ((fe + feSum l r d k : Nat) : Int) := by
  intro d
  induction d with
  | zero => intro k at_ fe met h; simp [walkN, feSum]
  | succ d ih =>
    intro k at_ fe met
    rw [walkN, feSum]
    cases otherN (tieA l (r.getD k 0)) at_ with
    | none => simp
    | some c =>
      dsimp only
      by_cases h : met.testBit c = true
      · rw [if_pos h]; simp
      · rw [if_neg h]
        intro h2
        rw [ih _ _ _ _ h2, Nat.add_assoc]

/-! ### lists of drovers -/
theorem ringN_to (l : List S39) (r : List Int) : ∀ d k fe met, (ringN l r d k fe met).2 = true → ∃ c : Nat → Nat, (∀ j, j < d → comB l (r.getD (k + j) 0) (nextI r (k + j)) = some (c j) ∧ met.testBit (c j) = false) ∧ ∀ i j, i < j → j < d → c i ≠ c j := by
  intro d
  induction d with
  | zero => intro k fe met _; exact ⟨fun _ => 0, fun j hj => absurd hj (Nat.not_lt_zero j), fun i j _ hj => absurd hj (Nat.not_lt_zero j)⟩
  | succ d ih =>
    intro k fe met
    rw [ringN]
    cases e : comB l (r.getD k 0) (nextI r k) with
    | none => intro h; simp at h
    | some v =>
      dsimp only
      by_cases h : met.testBit v = true
      · rw [if_pos h]; intro h; simp at h
      · rw [if_neg h]
        intro h2
        obtain ⟨c, h3, h4⟩ := ih _ _ _ h2
        refine ⟨fun j => match j with | 0 => v | j + 1 => c j, fun j hj => ?_, fun i j hij hj => ?_⟩
        · cases j with
          | zero => exact ⟨e, by simpa using h⟩
          | succ j =>
            have := h3 j (by omega)
            rw [or_bit, Bool.or_eq_false_iff] at this
            rw [show k + (j + 1) = k + 1 + j by omega]
            exact ⟨this.1, this.2.1⟩
        · cases j with
          | zero => omega
          | succ j =>
            cases i with
            | zero =>
              have := (h3 j (by omega)).2
              rw [or_bit, Bool.or_eq_false_iff, decide_eq_false_iff_not] at this
              exact fun e => this.2 e.symm
            | succ i => exact h4 i j (by omega) (by omega)
theorem ringN_of (l : List S39) (r : List Int) : ∀ d k fe met (c : Nat → Nat), (∀ j, j < d → comB l (r.getD (k + j) 0) (nextI r (k + j)) = some (c j) ∧ met.testBit (c j) = false) → (∀ i j, i < j → j < d → c i ≠ c j) → (ringN l r d k fe met).2 = true := by
  intro d
  induction d with
  | zero => intros; rfl
  | succ d ih =>
    intro k fe met c h3 h4
    have h0 := h3 0 (by omega)
    rw [Nat.add_zero] at h0
    rw [ringN, h0.1]
    dsimp only
    rw [if_neg (by rw [h0.2]; exact Bool.false_ne_true)]
    refine ih _ _ _ (fun j => c (j + 1)) (fun j hj => ?_) (fun i j hij hj => h4 (i + 1) (j + 1) (by omega) (by omega))
    have := h3 (j + 1) (by omega)
    rw [show k + 1 + j = k + (j + 1) by omega]
    refine ⟨this.1, ?_⟩
    rw [or_bit, this.2, Bool.false_or, decide_eq_false_iff_not]
    exact fun e => h4 0 (j + 1) (by omega) (by omega) e.symm
theorem walkN_to (l : List S39) (r : List Int) (fr : Nat) : ∀ d k at_ fe met, (walkN l r fr d k at_ fe met).2 = true → ∃ c : Nat → Nat, c 0 = at_ ∧ c d = fr ∧ (∀ j, j < d → otherN (tieA l (r.getD (k + j) 0)) (c j) = some (c (j + 1)) ∧ met.testBit (c (j + 1)) = false) ∧ ∀ i j, i < j → j < d → c (i + 1) ≠ c (j + 1) := by
  intro d
  induction d with
  | zero =>
    intro k at_ fe met h
    rw [walkN] at h
    exact ⟨fun _ => at_, rfl, of_decide_eq_true h, fun j hj => absurd hj (Nat.not_lt_zero j), fun i j _ hj => absurd hj (Nat.not_lt_zero j)⟩
  | succ d ih =>
    intro k at_ fe met
    rw [walkN]
    cases e : otherN (tieA l (r.getD k 0)) at_ with
    | none => intro h; simp at h
    | some v =>
      dsimp only
      by_cases h : met.testBit v = true
      · rw [if_pos h]; intro h; simp at h
      · rw [if_neg h]
        intro h2
        obtain ⟨c, h0, hd, h3, h4⟩ := ih _ _ _ _ h2
        refine ⟨fun j => match j with | 0 => at_ | j + 1 => c j, rfl, hd, fun j hj => ?_, fun i j hij hj => ?_⟩
        · cases j with
          | zero =>
            dsimp only
            rw [h0]
            exact ⟨e, by simpa using h⟩
          | succ j =>
            have := h3 j (by omega)
            rw [or_bit, Bool.or_eq_false_iff] at this
            rw [show k + (j + 1) = k + 1 + j by omega]
            exact ⟨this.1, this.2.1⟩
        · cases j with
          | zero => omega
          | succ j =>
            cases i with
            | zero =>
              have := (h3 j (by omega)).2
              rw [or_bit, Bool.or_eq_false_iff, decide_eq_false_iff_not] at this
              dsimp only
              rw [h0]
              exact fun e => this.2 e.symm
            | succ i => exact h4 i j (by omega) (by omega)
theorem walkN_of (l : List S39) (r : List Int) (fr : Nat) : ∀ d k at_ fe met (c : Nat → Nat), c 0 = at_ → c d = fr → (∀ j, j < d → otherN (tieA l (r.getD (k + j) 0)) (c j) = some (c (j + 1)) ∧ met.testBit (c (j + 1)) = false) → (∀ i j, i < j → j < d → c (i + 1) ≠ c (j + 1)) → (walkN l r fr d k at_ fe met).2 = true := by
  intro d
  induction d with
  | zero =>
    intro k at_ fe met c h0 hd _ _
    rw [walkN]
    exact decide_eq_true (h0.symm.trans hd)
  | succ d ih =>
    intro k at_ fe met c h0 hd h3 h4
    have h1 := h3 0 (by omega)
    rw [Nat.add_zero, h0] at h1
    rw [walkN, h1.1]
    dsimp only
    rw [if_neg (by rw [h1.2]; exact Bool.false_ne_true)]
    refine ih _ _ _ _ (fun j => c (j + 1)) rfl hd (fun j hj => ?_) (fun i j hij hj => h4 (i + 1) (j + 1) (by omega) (by omega))
    have := h3 (j + 1) (by omega)
    rw [show k + 1 + j = k + (j + 1) by omega]
    refine ⟨this.1, ?_⟩
    rw [or_bit, this.2, Bool.false_or, decide_eq_false_iff_not]
    exact fun e => h4 0 (j + 1) (by omega) (by omega) e.symm

/-! ### two ties -/
theorem hasB_iff {t : S39} {v : Nat} : hasB t v = true ↔ t.f0 = (v : Int) ∨ t.f1 = (v : Int) := by
  unfold hasB
  rw [Bool.or_eq_true, beq_iff_eq, beq_iff_eq]
theorem other_has {t : S39} {a b : Nat} (h1 : t.f0 < t.f1) (ha : hasB t a = true) (hb : hasB t b = true) (hne : a ≠ b) : otherN t a = some b := by
  rw [hasB_iff] at ha hb
  unfold otherN
  by_cases h : t.f0 = (a : Int)
  · rw [if_pos h]
    have : t.f1.toNat = b := by omega
    rw [this]
  · rw [if_neg h, if_pos (by omega)]
    have : t.f0.toNat = b := by omega
    rw [this]
theorem other_parts {t : S39} {a b : Nat} (h0 : 0 ≤ t.f0) (h1 : t.f0 < t.f1) (h : otherN t a = some b) : hasB t a = true ∧ hasB t b = true ∧ a ≠ b := by
  rw [hasB_iff, hasB_iff]
  unfold otherN at h
  by_cases e : t.f0 = (a : Int)
  · rw [if_pos e] at h
    have := Option.some.inj h
    omega
  · rw [if_neg e] at h
    by_cases e1 : t.f1 = (a : Int)
    · rw [if_pos e1] at h
      have := Option.some.inj h
      omega
    · rw [if_neg e1] at h; exact absurd h (by simp)
theorem com_parts {l : List S39} (hg : goodT l) {i nx : Int} {c : Nat} (h : comB l i nx = some c) : inR l i ∧ inR l nx ∧ hasB (tieA l i) c = true ∧ hasB (tieA l nx) c = true := by
  unfold comB at h
  by_cases h1 : inR l i ∧ inR l nx ∧ i ≠ nx
  · rw [if_pos h1] at h
    have hi := tieA_good hg h1.1
    refine ⟨h1.1, h1.2.1, ?_⟩
    by_cases h2 : hasB (tieA l nx) (tieA l i).f0.toNat = true
    · rw [if_pos h2] at h
      obtain rfl := Option.some.inj h
      exact ⟨hasB_iff.mpr (Or.inl (by omega)), h2⟩
    · rw [if_neg h2] at h
      by_cases h3 : hasB (tieA l nx) (tieA l i).f1.toNat = true
      · rw [if_pos h3] at h
        obtain rfl := Option.some.inj h
        exact ⟨hasB_iff.mpr (Or.inr (by omega)), h3⟩
      · rw [if_neg h3] at h; exact absurd h (by simp)
  · rw [if_neg h1] at h; exact absurd h (by simp)
theorem com_of {l : List S39} (hg : goodT l) {i nx : Int} (hi : inR l i) (hn : inR l nx) {a b x : Nat} (h : otherN (tieA l i) a = some b) (h' : otherN (tieA l nx) b = some x) (hne : x ≠ a) : comB l i nx = some b := by
  have gi := tieA_good hg hi
  have gn := tieA_good hg hn
  have p := other_parts gi.1 gi.2.1 h
  have q := other_parts gn.1 gn.2.1 h'
  rw [hasB_iff, hasB_iff] at p q
  have hin : i ≠ nx := by
    intro e
    subst e
    omega
  unfold comB
  rw [if_pos ⟨hi, hn, hin⟩]
  by_cases e : (tieA l i).f0.toNat = b
  · rw [e, if_pos (hasB_iff.mpr q.1)]
  · rw [if_neg (by rw [hasB_iff]; omega)]
    have e1 : (tieA l i).f1.toNat = b := by omega
    rw [e1, if_pos (hasB_iff.mpr q.1)]

/-! ### the two are one -/
theorem mod_in {k m : Nat} (h : k + 1 < m) : (k + 1) % m = k + 1 := Nat.mod_eq_of_lt h
theorem ring_of_walk {l : List S39} (hg : goodT l) {r : List Int} (h3 : 3 ≤ r.length) (hin : ∀ k, k < r.length → inR l (r.getD k 0)) {fr : Nat} (h : (walkF l r fr).2 = true) : (ringN l r r.length 0 0 0).2 = true := by
  obtain ⟨c, h0, hd, hs, hd2⟩ := walkN_to l r fr _ _ _ _ _ h
  refine ringN_of l r _ _ _ _ (fun j => c (j + 1)) (fun j hj => ⟨?_, Nat.zero_testBit _⟩) hd2
  rw [Nat.zero_add]
  have a1 := (hs j hj).1
  rw [Nat.zero_add] at a1
  by_cases hl : j + 1 < r.length
  · have a2 := (hs (j + 1) hl).1
    rw [Nat.zero_add] at a2
    unfold nextI
    rw [mod_in hl]
    refine com_of hg (hin j hj) (hin _ hl) a1 a2 ?_
    cases j with
    | zero =>
      rw [h0, ← hd]
      have := hd2 1 (r.length - 1) (by omega) (by omega)
      rwa [Nat.sub_add_cancel (by omega)] at this
    | succ j => exact fun e => hd2 j (j + 2) (by omega) (by omega) e.symm
  · have e : j + 1 = r.length := by omega
    have a2 := (hs 0 (by omega)).1
    rw [Nat.zero_add, h0, ← hd, ← e] at a2
    unfold nextI
    rw [e, Nat.mod_self]
    rw [← e]
    refine com_of hg (hin j hj) (hin 0 (by omega)) a1 a2 ?_
    obtain ⟨q, rfl⟩ : ∃ q, j = q + 1 := ⟨j - 1, by omega⟩
    exact hd2 0 q (by omega) (by omega)
theorem walk_of_ring {l : List S39} (hg : goodT l) {r : List Int} (h3 : 3 ≤ r.length) (h : (ringN l r r.length 0 0 0).2 = true) : (∀ k, k < r.length → inR l (r.getD k 0)) ∧ ∃ fr, (fr = (tieA l (r.getD 0 0)).f0.toNat ∨ fr = (tieA l (r.getD 0 0)).f1.toNat) ∧ (walkF l r fr).2 = true := by
  obtain ⟨c, hs, hd⟩ := ringN_to l r _ _ _ _ h
  have hc : ∀ k, k < r.length → inR l (r.getD k 0) ∧ inR l (nextI r k) ∧ hasB (tieA l (r.getD k 0)) (c k) = true ∧ hasB (tieA l (nextI r k)) (c k) = true := by
    intro k hk
    have := (hs k hk).1
    rw [Nat.zero_add] at this
    exact com_parts hg this
  have hin : ∀ k, k < r.length → inR l (r.getD k 0) := fun k hk => (hc k hk).1
  have e : r.length - 1 + 1 = r.length := Nat.sub_add_cancel (by omega)
  have hlast := hc (r.length - 1) (by omega)
  have hn0 : nextI r (r.length - 1) = r.getD 0 0 := by
    unfold nextI
    rw [e, Nat.mod_self]
  rw [hn0] at hlast
  have h00 := tieA_good hg (hin 0 (by omega))
  refine ⟨hin, c (r.length - 1), ?_, ?_⟩
  · have := hasB_iff.mp hlast.2.2.2
    omega
  · refine walkN_of l r _ _ _ _ _ _ (fun j => match j with | 0 => c (r.length - 1) | j + 1 => c j) rfl ?_ (fun j hj => ⟨?_, Nat.zero_testBit _⟩) hd
    · obtain ⟨q, hq⟩ : ∃ q, r.length = q + 1 := ⟨r.length - 1, by omega⟩
      rw [hq]; rfl
    · rw [Nat.zero_add]
      cases j with
      | zero => exact other_has h00.2.1 hlast.2.2.2 (hc 0 hj).2.2.1 (fun e => hd 0 (r.length - 1) (by omega) (by omega) e.symm)
      | succ j =>
        have hj' := hc j (by omega)
        have hn : nextI r j = r.getD (j + 1) 0 := by unfold nextI; rw [mod_in hj]
        rw [hn] at hj'
        exact other_has (tieA_good hg (hin _ hj)).2.1 hj'.2.2.2 (hc _ hj).2.2.1 (hd j (j + 1) (by omega) hj)
theorem ringP_eq {l : List S39} (hg : goodT l) (r : List Int) : ringP l r = isRingR l r := by
  unfold ringP isRingR
  by_cases h3 : r.length < 3
  · rw [if_pos h3, if_pos h3]
  · rw [if_neg h3, if_neg h3]
    have f0 := ringN_fst l r r.length 0 0 0
    have h3' : 3 ≤ r.length := by omega
    by_cases h : (ringN l r r.length 0 0 0).2 = true
    · obtain ⟨hin, fr, hfr, hw⟩ := walk_of_ring hg h3' h
      rw [if_pos h] at f0
      have e1 : ringN l r r.length 0 0 0 = (((0 + feSum l r r.length 0 : Nat) : Int), true) := Prod.ext f0 h
      have e2 : ∀ v, (walkF l r v).2 = true → walkF l r v = (((0 + feSum l r r.length 0 : Nat) : Int), true) := fun v hv => Prod.ext (walkN_fst l r v _ _ _ _ _ hv) hv
      rw [if_pos hin, e1]
      by_cases ha : (walkF l r (tieA l (r.getD 0 0)).f0.toNat).2 = true
      · rw [if_pos ha, e2 _ ha]
      · rw [if_neg ha]
        have hb : (walkF l r (tieA l (r.getD 0 0)).f1.toNat).2 = true := by
          rcases hfr with e | e
          · rw [e] at hw; exact absurd hw ha
          · rw [← e]; exact hw
        rw [if_pos hb, e2 _ hb]
    · rw [if_neg h] at f0
      have e1 : ringN l r r.length 0 0 0 = (0, false) := Prod.ext f0 (by simpa using h)
      rw [e1]
      by_cases hin : ∀ k, k < r.length → inR l (r.getD k 0)
      · rw [if_pos hin, if_neg (fun ha => h (ring_of_walk hg h3' hin ha)), if_neg (fun ha => h (ring_of_walk hg h3' hin ha))]
      · rw [if_neg hin]
end Go.Proofs.Ytaegldcifhgnmaa.A

/- The specification's searches for rings (plain). -/
namespace Go.Proofs.Ytaegldcifhgnmaa.B
open Go.Proofs.Ytaegldcifhgnmaa.A
open Go.RowKit Go.Proofs.YtaegldcifhgnmaaW.PrintWords Go.Proofs.YtaegldcifhgnmaaW.PrintMore
def lessB (a b : List Int) : Bool := decide (cmpL a b < 0)
/-- What is asked for of a ring's feuds. -/
def askB (one : Bool) (fe : Int) : Bool := if one = true then fe == 1 else Int.tmod fe 2 == 1
def ringedR (l : List S39) (one : Bool) : Nat → List Int → Nat → Nat → Option (List Int)
  | 0, now, _, _ => if ((isRingR l now).2 && askB one (isRingR l now).1) = true then some now else none
  | d + 1, now, at_, met => firstN (fun i => match otherN (l.getD i z39) at_ with
    | none => none
    | some v => if met.testBit v = true then none else ringedR l one d (now ++ [(i : Int)]) v (met ||| 2 ^ v)) l.length
def startR (l : List S39) (one : Bool) (size i fr : Nat) : Option (List Int) := ringedR l one (size - 1) [(i : Int)] fr (2 ^ fr)
def pickR (a b : Option (List Int)) : Option (List Int) := match a with
  | none => b
  | some x => match b with
    | none => some x
    | some y => if lessB x y = true then some x else some y
def pairR (l : List S39) (one : Bool) (size i : Nat) : Option (List Int) := pickR (startR l one size i (l.getD i z39).f0.toNat) (startR l one size i (l.getD i z39).f1.toNat)
def sizeR (l : List S39) (one : Bool) (size : Nat) : Option (List Int) := if 3 ≤ size then firstN (pairR l one size) l.length else none
def shortR (l : List S39) (one : Bool) (n : Nat) : Option (List Int) := firstN (sizeR l one) (n + 1)
end Go.Proofs.Ytaegldcifhgnmaa.B

/- The program's best list and the specification's shortest ring are one (plain). -/
namespace Go.Proofs.Ytaegldcifhgnmaa.B
open Go.Proofs.Ytaegldcifhgnmaa.A
open Go.RowKit Go.Proofs.YtaegldcifhgnmaaW.PrintWords Go.Proofs.YtaegldcifhgnmaaW.PrintMore
/-! ### the order of lists -/
theorem cmpI_self (a : Int) : cmpI a a = 0 := by unfold cmpI; rw [if_neg (by omega), if_neg (by omega)]
theorem cmpL_self : ∀ a : List Int, cmpL a a = 0
  | [] => rfl
  | a :: at_ => by rw [cmpL, cmpI_self, if_pos rfl, cmpL_self at_]
theorem cmpI_swap (a b : Int) : cmpI b a = - cmpI a b := by
  unfold cmpI
  by_cases h1 : a < b <;> by_cases h2 : b < a <;> simp [h1, h2] <;> omega
theorem cmpI_zero {a b : Int} (h : cmpI a b = 0) : a = b := by
  unfold cmpI at h
  split at h
  · omega
  · split at h <;> omega
theorem cmpL_swap : ∀ a b : List Int, cmpL b a = - cmpL a b
  | [], [] => rfl
  | [], _ :: _ => rfl
  | _ :: _, [] => rfl
  | a :: at_, b :: bs => by
    rw [cmpL, cmpL, cmpI_swap a b, cmpL_swap at_ bs]
    by_cases h : cmpI a b = 0
    · rw [if_pos h, if_pos (by omega)]
    · rw [if_neg h, if_neg (by omega)]
theorem cmpL_eq : ∀ a b : List Int, cmpL a b = 0 → a = b
  | [], [] => fun _ => rfl
  | [], _ :: _ => fun h => by simp [cmpL] at h
  | _ :: _, [] => fun h => by simp [cmpL] at h
  | a :: at_, b :: bs => fun h => by
    rw [cmpL] at h
    by_cases h0 : cmpI a b = 0
    · rw [if_pos h0] at h
      rw [cmpI_zero h0, cmpL_eq at_ bs h]
    · rw [if_neg h0] at h; exact absurd h h0
theorem cmpL_trans : ∀ a b c : List Int, cmpL a b ≤ 0 → cmpL b c ≤ 0 → cmpL a c ≤ 0
  | [], _, [] => fun _ _ => by simp [cmpL]
  | [], _, _ :: _ => fun _ _ => by simp [cmpL]
  | a :: at_, [], _ => fun h _ => by simp [cmpL] at h
  | a :: at_, b :: bs, [] => fun _ h => by simp [cmpL] at h
  | a :: at_, b :: bs, c :: cs => fun h1 h2 => by
    rw [cmpL] at h1 h2 ⊢
    have ih := cmpL_trans at_ bs cs
    unfold cmpI at h1 h2 ⊢
    by_cases x1 : a < b <;> by_cases x2 : b < a <;> by_cases y1 : b < c <;> by_cases y2 : c < b <;> by_cases z1 : a < c <;> by_cases z2 : c < a <;> simp [x1, x2, y1, y2, z1, z2] at h1 h2 ⊢ <;> first | omega | exact ih h1 h2
theorem cmpL_pre : ∀ (p a b : List Int), cmpL (p ++ a) (p ++ b) = cmpL a b
  | [], _, _ => rfl
  | p :: ps, a, b => by rw [List.cons_append, List.cons_append, cmpL, cmpI_self, if_pos rfl, cmpL_pre ps]
theorem cmpL_lt {i j : Int} (h : i < j) (a b : List Int) : cmpL (i :: a) (j :: b) ≤ 0 := by
  rw [cmpL]
  unfold cmpI
  rw [if_pos h, if_neg (by decide)]
  decide

/-! ### the least -/
def IsLeast (P : List Int → Prop) (S : Option (List Int)) : Prop := match S with
  | none => ∀ x, ¬ P x
  | some b => P b ∧ ∀ x, P x → cmpL b x ≤ 0
theorem least_one {P Q : List Int → Prop} {S T : Option (List Int)} (hs : IsLeast P S) (ht : IsLeast Q T) (h : ∀ x, P x ↔ Q x) : S = T := by
  cases S with
  | none =>
    cases T with
    | none => rfl
    | some b => exact absurd ((h b).mpr ht.1) (hs b)
  | some a =>
    cases T with
    | none => exact absurd ((h a).mp hs.1) (ht a)
    | some b =>
      have h1 := hs.2 b ((h b).mpr ht.1)
      have h2 := ht.2 a ((h a).mp hs.1)
      have := cmpL_swap a b
      rw [cmpL_eq a b (by omega)]
theorem least_iff {P Q : List Int → Prop} {S : Option (List Int)} (hs : IsLeast P S) (h : ∀ x, P x ↔ Q x) : IsLeast Q S := by
  cases S with
  | none => exact fun x hx => hs x ((h x).mpr hx)
  | some a => exact ⟨(h a).mp hs.1, fun x hx => hs.2 x ((h x).mpr hx)⟩
theorem least_pick {P Q : List Int → Prop} {S T : Option (List Int)} (hs : IsLeast P S) (ht : IsLeast Q T) : IsLeast (fun x => P x ∨ Q x) (pickR S T) := by
  cases S with
  | none =>
    exact least_iff ht fun x => ⟨Or.inr, fun h => h.elim (fun h => absurd h (hs x)) id⟩
  | some a =>
    cases T with
    | none => exact least_iff hs fun x => ⟨Or.inl, fun h => h.elim id (fun h => absurd h (ht x))⟩
    | some b =>
      unfold pickR
      dsimp only
      by_cases h : lessB a b = true
      · rw [if_pos h]
        have hl : cmpL a b < 0 := of_decide_eq_true h
        exact ⟨Or.inl hs.1, fun x hx => hx.elim (hs.2 x) fun hx => cmpL_trans a b x (by omega) (ht.2 x hx)⟩
      · rw [if_neg h]
        have hl : ¬ cmpL a b < 0 := fun e => h (decide_eq_true e)
        have := cmpL_swap a b
        exact ⟨Or.inr ht.1, fun x hx => hx.elim (fun hx => cmpL_trans b a x (by omega) (hs.2 x hx)) (ht.2 x)⟩
theorem least_first {P : Nat → List Int → Prop} {F : Nat → Option (List Int)} (hF : ∀ i, IsLeast (P i) (F i)) (ho : ∀ i j x y, i < j → P i x → P j y → cmpL x y ≤ 0) : ∀ m, IsLeast (fun x => ∃ i, i < m ∧ P i x) (firstN F m) := by
  intro m
  induction m with
  | zero => exact fun x ⟨i, hi, _⟩ => absurd hi (Nat.not_lt_zero i)
  | succ m ih =>
    rw [firstN]
    cases e : firstN F m with
    | some b =>
      rw [e] at ih
      obtain ⟨i, hi, hp⟩ := ih.1
      refine ⟨⟨i, by omega, hp⟩, fun x ⟨j, hj, hx⟩ => ?_⟩
      by_cases hjm : j < m
      · exact ih.2 x ⟨j, hjm, hx⟩
      · exact ho i j b x (by omega) hp hx
    | none =>
      rw [e] at ih
      refine least_iff (hF m) fun x => ⟨fun h => ⟨m, by omega, h⟩, fun ⟨j, hj, hx⟩ => ?_⟩
      by_cases hjm : j < m
      · exact absurd ⟨j, hjm, hx⟩ (ih x)
      · obtain rfl : j = m := by omega
        exact hx

/-! ### walks -/
def WT (l : List S39) (fr : Nat) : Nat → Nat → List Int → Prop
  | at_, _, [] => at_ = fr
  | at_, met, j :: js => inR l j ∧ ∃ v, otherN (tieA l j) at_ = some v ∧ met.testBit v = false ∧ WT l fr v (met ||| 2 ^ v) js
def PT (l : List S39) (fr : Nat) : Nat → Nat → List Int → Prop
  | at_, _, [] => at_ = fr
  | at_, met, j :: js => inR l j ∧ ∃ v, otherN (tieA l j) at_ = some v ∧ (if js = [] then v = fr else met.testBit v = false) ∧ PT l fr v (met ||| 2 ^ v) js
def DT (l : List S39) : Nat → Nat → List Int → Prop
  | _, _, [] => True
  | at_, met, j :: js => inR l j ∧ ∃ v, otherN (tieA l j) at_ = some v ∧ met.testBit v = false ∧ DT l v (met ||| 2 ^ v) js
def feL (l : List S39) : List Int → Nat
  | [] => 0
  | j :: js => feT (tieA l j) + feL l js
section
variable {l : List S39}
theorem WT_DT {fr : Nat} : ∀ (js : List Int) (at_ met : Nat), WT l fr at_ met js → DT l at_ met js
  | [], _, _, _ => trivial
  | _ :: js, _, _, ⟨h, v, h1, h2, h3⟩ => ⟨h, v, h1, h2, WT_DT js _ _ h3⟩
theorem WT_in {fr : Nat} : ∀ (js : List Int) (at_ met : Nat), WT l fr at_ met js → ∀ j ∈ js, inR l j
  | [], _, _, _ => fun _ hj => absurd hj (by simp)
  | j :: js, _, _, ⟨h, v, _, _, h3⟩ => fun i hi => by
    rcases List.mem_cons.mp hi with e | e
    · rw [e]; exact h
    · exact WT_in js _ _ h3 i e
theorem WT_met {fr : Nat} : ∀ (js : List Int) (at_ met : Nat), met.testBit fr = true → js ≠ [] → ¬ WT l fr at_ met js
  | [], _, _, _, h => fun _ => h rfl
  | j :: js, _, met, hm, _ => fun ⟨_, v, _, h2, h3⟩ => by
    by_cases e : js = []
    · subst e
      rw [WT] at h3
      subst h3
      rw [hm] at h2; cases h2
    · exact WT_met js v (met ||| 2 ^ v) (by rw [or_bit, hm, Bool.true_or]) e h3
theorem WT_PT {fr : Nat} : ∀ (js : List Int) (at_ met : Nat), met.testBit fr = false → (WT l fr at_ met js ↔ PT l fr at_ (met ||| 2 ^ fr) js)
  | [], _, _, _ => Iff.rfl
  | j :: js, at_, met, hm => by
    rw [WT, PT]
    refine and_congr Iff.rfl (exists_congr fun v => and_congr Iff.rfl ?_)
    by_cases e : js = []
    · subst e
      rw [if_pos rfl, WT, PT]
      exact ⟨fun h => ⟨h.2, h.2⟩, fun h => ⟨by rw [h.1]; exact hm, h.2⟩⟩
    · rw [if_neg e]
      have hc : (met ||| 2 ^ fr) ||| 2 ^ v = (met ||| 2 ^ v) ||| 2 ^ fr := by rw [Nat.or_assoc, Nat.or_comm (2 ^ fr), Nat.or_assoc]
      rw [hc, or_bit, Bool.or_eq_false_iff, decide_eq_false_iff_not]
      constructor
      · rintro ⟨h2, h3⟩
        have hv : v ≠ fr := fun ev => WT_met js v (met ||| 2 ^ v) (by rw [or_bit, ev]; simp) e h3
        refine ⟨⟨h2, hv⟩, (WT_PT js v (met ||| 2 ^ v) ?_).mp h3⟩
        rw [or_bit, hm, Bool.false_or, decide_eq_false_iff_not]
        exact fun e => hv e.symm
      · rintro ⟨⟨h2, hv⟩, h3⟩
        refine ⟨h2, (WT_PT js v (met ||| 2 ^ v) ?_).mpr h3⟩
        rw [or_bit, hm, Bool.false_or, decide_eq_false_iff_not]
        exact fun e => hv e.symm
end
end Go.Proofs.Ytaegldcifhgnmaa.B
