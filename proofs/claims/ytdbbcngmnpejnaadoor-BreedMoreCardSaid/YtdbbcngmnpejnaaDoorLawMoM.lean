/- BreedMore holds: its code returns true and leaves what it was given as it was. Conditions: those of the given statement, none besides. -/
import Derived.Test.YtdbbcngmnpejnaaDoorZB2
import Derived.Test.YtdbbcngmnpejnaaDoorProg
import Derived.Below
import Derived.Deep.Draws
import Derived.Deep.AppendLies
import Derived.Maps.AppendAt
import Derived.OwnWalk
import Derived.Laws.BytesArg
import Derived.Laws.MakeOwn
import Derived.Laws.OwnMore
import Derived.Deep.OwnRows
import Derived.Tactics
import Derived.Lib.ConvBytes
import Derived.Laws.Slices
import Derived.WalkKit
import Derived.KernelRfl
import Derived.RowKit3
import Derived.Deep.LoopGhost
import Derived.Deep.QuietTactic
import Derived.BigQuiet
import Derived.WideLaws
import Derived.Deep.DeepCutAuto
import Derived.Deep.CutBlock
import Derived.Deep.RegionHeld3
import Derived.Laws.Rows
import Derived.Lib.AppendStr
import Derived.ArgAppend
import Derived.Laws.IdiomCopy
import Derived.OrdersHeld
import Derived.Laws.BitsLemmas
import Derived.RowKit
import Derived.Test.YtdbbcngmnpejnaaDoorWWords
import Derived.Test.YtdbbcngmnpejnaaDoorWLast
import Derived.Test.YtdbbcngmnpejnaaDoorWTab
import Derived.Test.YtdbbcngmnpejnaaDoorWFour
import Derived.Test.YtdbbcngmnpejnaaDoorWQPut
import Derived.Test.YtdbbcngmnpejnaaDoorWApart
import Derived.Test.YtdbbcngmnpejnaaDoorWArr
import Derived.Test.YtdbbcngmnpejnaaDoorWZeros
import Derived.Test.YtdbbcngmnpejnaaDoorWFoot
import Derived.Test.YtdbbcngmnpejnaaDoorWKept
import Derived.Test.YtdbbcngmnpejnaaDoorWShare
import Derived.Test.YtdbbcngmnpejnaaDoorWN
import Derived.Test.YtdbbcngmnpejnaaDoorWFootNe
import Derived.Test.YtdbbcngmnpejnaaDoorWAt
import Derived.Test.YtdbbcngmnpejnaaDoorWEqStruct
import Derived.Test.YtdbbcngmnpejnaaDoorWRepsOne
import Derived.Test.YtdbbcngmnpejnaaDoorWInv
import Derived.Test.YtdbbcngmnpejnaaDoorWInvWords
import Derived.Test.YtdbbcngmnpejnaaDoorWGuard
import Derived.Test.YtdbbcngmnpejnaaDoorWNEv
import Derived.Test.YtdbbcngmnpejnaaDoorWMore
import Derived.Deep.Slices
import Derived.ChangeSame
import Derived.Test.YtdbbcngmnpejnaaDoorRows
import Derived.Test.YtdbbcngmnpejnaaDoorCards
import Derived.Test.YtdbbcngmnpejnaaDoorTie
import Derived.LaidMore
import Derived.Stop.Joined
import Derived.SevenTiedAt
import Derived.Lib.SmallJoins
import Derived.ProofKit
import Derived.OpenShut
import Derived.ShutString
import Derived.ChangeOld
import Derived.SizedLaws
import Derived.Test.YtdbbcngmnpejnaaDoorWSized
/- Aho's theorem, plain: what is built shows its triples; what some tree shows can be built; what can't be built has a knot. -/
namespace Go.Proofs.YtdbbcngmnpejnaaDoor.A

/-- Three different beasts of eight. -/
def Tri3 (x : S44) : Prop := Tri8 x ∧ x.a ≠ x.b ∧ x.c ≠ x.a ∧ x.c ≠ x.b
def shows3 (t : BT) (x : S44) : Bool := showsB t x.a x.b x.c
variable {l : List S44} {s : Nat}
theorem pair_a (x : S44) : (pairN x).testBit x.a = true := by unfold pairN; rw [pair_bit]; simp
theorem pair_b (x : S44) : (pairN x).testBit x.b = true := by unfold pairN; rw [pair_bit]; simp
theorem all_c (x : S44) : (allN x).testBit x.c = true := by unfold allN; rw [Nat.testBit_or, two_bit]; simp
theorem sub_pair {x : S44} {q : Nat} (ha : q.testBit x.a = true) (hb : q.testBit x.b = true) : SubN (pairN x) q := has_iff.mp (has_pair.mpr ⟨ha, hb⟩)
theorem sub_all {x : S44} {q : Nat} (h : SubN (pairN x) q) (hc : q.testBit x.c = true) : SubN (allN x) q := sub_or h fun i hi => by
  rw [two_bit, decide_eq_true_iff] at hi
  rw [← hi]; exact hc
/-- The trees of a tree that is built, one for each part. -/
theorem build_node (hl : ∀ t ∈ l, Tri8 t) {f : Nat} (h0 : s ≠ 0) (h8 : s < 256) {t : BT} (h : buildF l (f + 1) s = some t) (h1 : s &&& (s - 1) ≠ 0) : ∃ ts, t = .node ts ∧ ts.map BT.set = partsF l s ∧ ∀ k ∈ ts, buildF l f k.set = some k := by
  have hg := build_good hl (f + 1) s t h0 h8 h
  rw [buildF, if_neg h1] at h
  by_cases h2 : (partsF l s).length = 1
  · rw [if_pos h2] at h; cases h
  · rw [if_neg h2] at h
    obtain ⟨ts, hts, rfl⟩ := Option.map_eq_some_iff.mp h
    have hP := parts_spec (s := s) hl h8
    have hm := mapO_some.mp hts
    have hp8 : ∀ p ∈ partsF l s, p < 256 := fun p hp => lt_of_bits (k := 8) fun i hi => bit_lt (k := 8) h8 (hP.sub p hp i hi)
    have hset : ts.map BT.set = partsF l s := by
      have hlen : ts.length = (partsF l s).length := by have := congrArg List.length hm; rw [List.length_map, List.length_map] at this; exact this.symm
      refine List.ext_getElem (by rw [List.length_map, hlen]) fun i h1 h2 => ?_
      rw [List.length_map] at h1
      have e := congrArg (fun L => L[i]?) hm
      (try dsimp only at e)
      rw [List.getElem?_map, List.getElem?_map, List.getElem?_eq_getElem h2, List.getElem?_eq_getElem h1] at e
      have e2 := Option.some.inj e
      have hp := List.getElem_mem h2
      rw [List.getElem_map]
      exact (build_good hl f _ _ (hP.ne _ hp) (hp8 _ hp) e2).2
    refine ⟨ts, rfl, hset, fun k hk => ?_⟩
    have : some k ∈ (partsF l s).map (buildF l f) := by rw [hm]; exact List.mem_map.mpr ⟨k, hk, rfl⟩
    obtain ⟨p, hp, e⟩ := List.mem_map.mp this
    rw [(build_good hl f p k (hP.ne p hp) (hp8 p hp) e).2]
    exact e
/-- What is built shows the triples within its set. -/
theorem build_shows (hl : ∀ t ∈ l, Tri3 t) : ∀ f s t, s ≠ 0 → s < 256 → buildF l f s = some t → ∀ x ∈ l, SubN (allN x) s → shows3 t x = true
  | 0, _, _, _, _, h, _, _, _ => by rw [buildF] at h; cases h
  | f + 1, s, t, h0, h8, h, x, hx, hs => by
    have hl8 : ∀ t ∈ l, Tri8 t := fun t ht => (hl t ht).1
    by_cases h1 : s &&& (s - 1) = 0
    · exfalso
      have h2 := (one_iff s h8 h0).mp h1
      have ha := hs _ (pair_sub x _ (pair_a x))
      have hb := hs _ (pair_sub x _ (pair_b x))
      rw [h2, two_bit, decide_eq_true_iff] at ha hb
      exact (hl x hx).2.1 (by omega)
    · obtain ⟨ts, rfl, hset, hk⟩ := build_node hl8 h0 h8 h h1
      have hg := (build_good hl8 (f + 1) s _ h0 h8 h).1
      have hP := parts_spec (s := s) hl8 h8
      obtain ⟨p, hp, hpa⟩ := hP.all x.a (hs _ (pair_sub x _ (pair_a x)))
      have hpp := hP.closed p hp x hx hs (meet_iff.mpr ⟨x.a, pair_a x, hpa⟩)
      rw [← hset] at hp
      obtain ⟨k, hkm, rfl⟩ := List.mem_map.mp hp
      have hka := hpp _ (pair_a x)
      have hkb := hpp _ (pair_b x)
      have hgk := (good_node.mp hg).2.1 k hkm
      cases hc : k.set.testBit x.c with
      | true =>
        unfold shows3
        rw [shows_in hg hkm hka hkb]
        exact build_shows hl f k.set k (good_ne hgk) (good_256 hgk) (hk k hkm) x hx (sub_all hpp hc)
      | false => exact shows_apart hg hkm hka hkb hc
/-- Where a tree of several parts shows the triples within a set, no part of the set lies in two parts of the tree. -/
theorem part_in (hl : ∀ t ∈ l, Tri8 t) {ks : List BT} (hg : (BT.node ks).Good) (h8 : s < 256) (hs : SubN s (BT.node ks).set) (hsh : ∀ x ∈ l, SubN (allN x) s → shows3 (.node ks) x = true) {p : Nat} (hp : p ∈ partsF l s) : ∃ k ∈ ks, SubN p k.set := by
  have hP := parts_spec (s := s) hl h8
  have hp8 : p < 256 := lt_of_bits (k := 8) fun i hi => bit_lt (k := 8) h8 (hP.sub p hp i hi)
  have hlow := low_bit (hP.ne p hp) hp8
  have hls := hP.sub p hp _ hlow
  have hlt := hs _ hls
  rw [set_node, sets_bit] at hlt
  obtain ⟨k, hk, hkl⟩ := hlt
  refine ⟨k, hk, ?_⟩
  have hpw := (good_node.mp hg).2.2
  have hQ : ClosedJ l s (s &&& k.set) := fun x hx hxs hm => by
    obtain ⟨j, hj1, hj2⟩ := meet_iff.mp hm
    rw [Nat.testBit_and, Bool.and_eq_true] at hj2
    have hsx := hsh x hx hxs
    have hsame : ∃ k' ∈ ks, k'.set.testBit x.a = true ∧ k'.set.testBit x.b = true := by
      refine Classical.byContradiction fun hno => ?_
      have := shows_out (ks := ks) (a := x.a) (b := x.b) (c := x.c) (fun k' hk' ha => by
        cases hb : k'.set.testBit x.b with
        | false => rfl
        | true => exact absurd ⟨k', hk', ha, hb⟩ hno) (hs _ (hxs _ (all_c x)))
      unfold shows3 at hsx
      rw [this] at hsx; cases hsx
    obtain ⟨k', hk', ha, hb⟩ := hsame
    have hj3 := sub_pair (x := x) ha hb j hj1
    have e : k' = k := part_one hpw hk' hk hj3 hj2.2
    subst e
    intro i hi
    rw [Nat.testBit_and, hxs i (pair_sub x i hi), sub_pair ha hb i hi]; rfl
  have h := hP.least p hp _ hQ (by rw [Nat.testBit_and, hls, hkl]; rfl)
  intro i hi
  have := h i hi
  rw [Nat.testBit_and, Bool.and_eq_true] at this
  exact this.2
/-- What some tree shows can be built. -/
theorem shows_build (hl : ∀ t ∈ l, Tri8 t) (T : BT) : T.Good → ∀ f s, s ≠ 0 → s < 256 → pcN s 8 < f → SubN s T.set → (∀ x ∈ l, SubN (allN x) s → shows3 T x = true) → buildF l f s ≠ none := by
  refine BT.ind (P := fun T => T.Good → ∀ f s, s ≠ 0 → s < 256 → pcN s 8 < f → SubN s T.set → (∀ x ∈ l, SubN (allN x) s → shows3 T x = true) → buildF l f s ≠ none) (fun i hi f s h0 h8 hf hs _ => ?_) (fun ks ih hg f s h0 h8 hf hs hsh => ?_) T
  · obtain ⟨f, rfl⟩ : ∃ f', f = f' + 1 := ⟨f - 1, by omega⟩
    have e : s = 2 ^ low s := by
      refine Nat.eq_of_testBit_eq fun j => ?_
      have hb := hs _ (low_bit h0 h8)
      rw [set_leaf, two_bit, decide_eq_true_iff] at hb
      rw [two_bit]
      cases h : s.testBit j with
      | true =>
        have := hs j h
        rw [set_leaf, two_bit, decide_eq_true_iff] at this
        rw [decide_eq_true (show low s = j by omega)]
      | false =>
        rw [decide_eq_false]
        intro e
        rw [← e, low_bit h0 h8] at h; cases h
    rw [buildF, if_pos ((one_iff s h8 h0).mpr e)]
    simp
  · obtain ⟨f, rfl⟩ : ∃ f', f = f' + 1 := ⟨f - 1, by omega⟩
    by_cases hin : ∃ k ∈ ks, SubN s k.set
    · obtain ⟨k, hk, hsk⟩ := hin
      refine ih k hk ((good_node.mp hg).2.1 k hk) (f + 1) s h0 h8 hf hsk fun x hx hxs => ?_
      have := hsh x hx hxs
      unfold shows3 at this ⊢
      rwa [shows_in hg hk (hsk _ (hxs _ (pair_sub x _ (pair_a x)))) (hsk _ (hxs _ (pair_sub x _ (pair_b x))))] at this
    · have hP := parts_spec (s := s) hl h8
      have hn1 : s &&& (s - 1) ≠ 0 := fun e => by
        have e2 := (one_iff s h8 h0).mp e
        have hb := hs _ (low_bit h0 h8)
        rw [set_node, sets_bit] at hb
        obtain ⟨k, hk, hkl⟩ := hb
        refine hin ⟨k, hk, fun i hi => ?_⟩
        rw [e2, two_bit, decide_eq_true_iff] at hi
        rw [← hi]; exact hkl
      have hn2 : (partsF l s).length ≠ 1 := fun e => by
        obtain ⟨p, hp⟩ := List.length_eq_one_iff.mp e
        obtain ⟨k, hk, hpk⟩ := part_in hl hg h8 hs hsh (p := p) (by rw [hp]; exact List.mem_cons_self)
        refine hin ⟨k, hk, fun i hi => ?_⟩
        obtain ⟨q, hq, hqi⟩ := hP.all i hi
        rw [hp, List.mem_singleton] at hq
        rw [hq] at hqi
        exact hpk i hqi
      rw [buildF, if_neg hn1, if_neg hn2]
      intro hno
      have hno2 : mapO (buildF l f) (partsF l s) = none := by
        cases h : mapO (buildF l f) (partsF l s) with
        | none => rfl
        | some ts => rw [h] at hno; cases hno
      obtain ⟨p, hp, hpn⟩ := mapO_none.mp hno2
      have hp8 : p < 256 := lt_of_bits (k := 8) fun i hi => bit_lt (k := 8) h8 (hP.sub p hp i hi)
      obtain ⟨k, hk, hpk⟩ := part_in hl hg h8 hs hsh hp
      have hpc := part_less hl h8 hp hn2
      refine ih k hk ((good_node.mp hg).2.1 k hk) f p (hP.ne p hp) hp8 (by omega) hpk (fun x hx hxp => ?_) hpn
      have := hsh x hx (hxp.trans (hP.sub p hp))
      unfold shows3 at this ⊢
      rwa [shows_in hg hk (hpk _ (hxp _ (pair_sub x _ (pair_a x)))) (hpk _ (hxp _ (pair_sub x _ (pair_b x))))] at this
end Go.Proofs.YtdbbcngmnpejnaaDoor.A

/- slices.IndexFunc and slices.ContainsFunc over triples; breed.shows and breed.Shows, walked. (Printed by gen_d17.py.) -/
namespace Go.Proofs.YtdbbcngmnpejnaaDoor.B
open Go.Proofs.YtdbbcngmnpejnaaDoor.A
open Go.RowKit Go.Proofs.YtdbbcngmnpejnaaDoorW.PrintWords Go.Proofs.YtdbbcngmnpejnaaDoorW.PrintMore

def enc44 (t : S44) : Value := .agg #[.int .i64 t.f0, .int .i64 t.f1, .int .i64 t.f2]
/-- A function value that answers p at each element of a list, in every world in which all that lay in w lies unturned. -/
def PredB (g : Nat) (lb : Array Value) (p : S44 → Bool) (l : List S44) (w : World) : Prop :=
  ∀ (W : World) (x : S44), x ∈ l → Below w.heap.size w W → Calls Tryd.prog g (#[enc44 x] ++ lb) W fun e w' => e = .returned (.bool (p x)) ∧ Below w.heap.size w w'
set_option maxHeartbeats 2000000 in
set_option maxRecDepth 100000 in
theorem IndexFunc_tri (g : Nat) (lb : Array Value) (p : S44 → Bool) (eg : ∀ args w, (callFunc g args).run Tryd.prog w = .ok (.enter g args) w)
    (A : Option Addr) (n c : Nat) (l : List S44) (w : World) (hr : Kd.C k44 w A n l) (hp : PredB g lb p l w) :
    Calls Tryd.prog 75 #[.slice A n c, .func (.func g) #[] lb] w fun e w' => (∃ i : Int, e = .returned (.int .i64 i) ∧ Aside0 ((i = -1 ∧ ∀ j, j < n → p (l.getD j z44) = false) ∨ ∃ k : Nat, i = k ∧ k < n ∧ p (l.getD k z44) = true ∧ ∀ j, j < k → p (l.getD j z44) = false)) ∧ Below w.heap.size w w' := by
  have hlen : l.length = n := hr.1
  have hmax : n ≤ 9223372036854775807 := by have := hr.2.1; omega
  have HR := Aside0.mk hr
  have HP := Aside0.mk hp
  have HL := Aside0.mk hlen
  clear hr hp hlen
  go_enter Tryd.func75, Tryd.ntmps75
  go_wp2
  go_loopg [5, 8] n (fun gg _ s8 wr => ∃ kk : Nat, kk ≤ n ∧ n - kk ≤ gg ∧ s8 = .int .i64 kk ∧ Aside0 (Below w.heap.size w wr) ∧ Aside0 (∀ j, j < kk → p (l.getD j z44) = false))
  case atStart => exact ⟨0, Nat.zero_le _, by omega, rfl, ⟨Below.refl _ w⟩, ⟨fun j hj => absurd hj (Nat.not_lt_zero _)⟩⟩
  case round =>
    obtain ⟨kk, hkk, hg, rfl, BW, AF⟩ := hrel
    by_cases hlt : kk < n
    · have hltz : (kk : Int) < (n : Int) := by omega
      obtain ⟨ad, rfl, hx0, hx1, hx2⟩ := at_T44 (Kd.C_below HR.out BW.out) (kk : Int) (by omega) (by omega)
      rw [Int.toNat_natCast] at hx0 hx1 hx2
      have hrd : rd_T44 l (kk : Int) = l.getD kk z44 := by simp only [rd_T44, Int.toNat_natCast]
      rw [hrd] at hx0 hx1 hx2
      have hcall := HP.out wr (l.getD kk z44) (getD_mem z44 (by rw [HL.out]; exact hlt)) BW.out
      clear hrd
      generalize hy : l.getD kk z44 = y at hx0 hx1 hx2 hcall
      have B := Aside0.mk hy
      clear hy
      unfold enc44 at hcall
      cases hq : p y with
      | true =>
        rw [hq] at hcall
        go_wp2_with (go_at_fn g; refine hcall.mono ?_; rintro e w' ⟨rfl, hb'⟩)
        go_ret
        exact ⟨⟨kk, rfl, ⟨Or.inr ⟨kk, rfl, hlt, by rw [B.out]; exact hq, AF.out⟩⟩⟩, hb'⟩
      | false =>
        rw [hq] at hcall
        go_wp2_with (go_at_fn g; refine hcall.mono ?_; rintro e w' ⟨rfl, hb'⟩)
        go_roundg (n - (kk + 1))
        case measure => omega
        case rel =>
          refine ⟨kk + 1, by omega, by omega, by go_num, ⟨hb'⟩, ⟨fun j hj => ?_⟩⟩
          by_cases e : j = kk
          · subst e
            rw [B.out]; exact hq
          · exact AF.out j (by omega)
    · have hltz : ¬ (kk : Int) < (n : Int) := by omega
      have : kk = n := by omega
      subst this
      go_wp2
      go_ret
      exact ⟨⟨-1, rfl, ⟨Or.inl ⟨rfl, AF.out⟩⟩⟩, BW.out⟩
theorem enters75 (args : Array Value) (w : World) : (callFunc 75 args).run Tryd.prog w = .ok (.enter 75 args) w := by kernel_rfl
theorem enters58 (args : Array Value) (w : World) : (callFunc 58 args).run Tryd.prog w = .ok (.enter 58 args) w := by kernel_rfl
theorem enters65 (args : Array Value) (w : World) : (callFunc 65 args).run Tryd.prog w = .ok (.enter 65 args) w := by kernel_rfl
theorem ContainsFunc_tri (g : Nat) (lb : Array Value) (p : S44 → Bool) (eg : ∀ args w, (callFunc g args).run Tryd.prog w = .ok (.enter g args) w)
    (A : Option Addr) (n c : Nat) (l : List S44) (w : World) (hr : Kd.C k44 w A n l) (hp : PredB g lb p l w) :
    Calls Tryd.prog 57 #[.slice A n c, .func (.func g) #[] lb] w fun e w' => e = .returned (.bool (l.any p)) ∧ Below w.heap.size w w' := by
  have H := Aside0.mk (IndexFunc_tri g lb p eg A n c l w hr hp)
  have HL := Aside0.mk hr.1
  clear hr hp eg
  go_enter Tryd.func57, Tryd.ntmps57
  go_wp2_with (go_at_call 75; refine H.out.mono ?_; rintro e w' ⟨⟨i, rfl, hi⟩, hb'⟩)
  go_ret
  refine ⟨?_, hb'⟩
  rcases hi.out with ⟨rfl, h⟩ | ⟨k, rfl, hk, hpk, _⟩
  · rw [any_miss z44 (fun j hj => h j (by rw [← HL.out]; exact hj))]; rfl
  · rw [any_hit z44 (by rw [HL.out]; exact hk) hpk]
    show Ending.returned (.bool (decide ((k : Int) ≥ 0))) = _
    rw [decide_eq_true (by omega)]

/-! ### shows -/
def showsT (t : BT) (x : S44) : Bool := showsB t x.a x.b x.c
theorem and_one (q c : Nat) (hq : q < 256) : bits .and .i64 ((q : Int) / 2 ^ c) 1 = if q.testBit c = true then 1 else 0 := by
  have e : ((q : Int) / 2 ^ c) = ((q / 2 ^ c : Nat) : Int) := by rw [two_cast, ← Int.natCast_ediv]
  have hle : q / 2 ^ c < 256 := Nat.lt_of_le_of_lt (Nat.div_le_self _ _) hq
  rw [e]
  have h := and_cast (b := 1) hle (by decide)
  rw [show ((1 : Int)) = ((1 : Nat) : Int) from rfl, h, Nat.and_one_is_mod, Nat.testBit_eq_decide_div_mod_eq]
  by_cases h2 : q / 2 ^ c % 2 = 1
  · rw [decide_eq_true h2, if_pos rfl, h2]
  · rw [decide_eq_false h2, if_neg Bool.false_ne_true]; omega
set_option maxRecDepth 100000 in
set_option maxHeartbeats 3200000 in
theorem shows_calls (t : BT) (hg : t.Good) (x : S44) (hx : Tri8 x) (ok : Nat → Prop) (v : Value) (W : World) (hv : TrV W ok v t) :
    Calls Tryd.prog 59 #[v, enc44 x] W fun e w' => e = .returned (.bool (showsT t x)) ∧ Below W.heap.size W w' := by
  obtain ⟨Z, hZ⟩ : ∃ Z, showsT t x = Z := ⟨_, rfl⟩
  rw [hZ]
  unfold showsT showsB at hZ
  obtain ⟨ha8, hb8, hc8⟩ := tri_lt hx
  obtain ⟨⟨h00, _⟩, ⟨h10, _⟩, ⟨h20, _⟩⟩ := hx
  obtain ⟨t0, t1, t2⟩ := x
  unfold enc44
  dsimp only at h00 h10 h20 ⊢
  obtain ⟨a, rfl⟩ := Int.eq_ofNat_of_zero_le h00
  obtain ⟨b, rfl⟩ := Int.eq_ofNat_of_zero_le h10
  obtain ⟨c, rfl⟩ := Int.eq_ofNat_of_zero_le h20
  have ea : S44.a ⟨(a : Int), (b : Int), (c : Int)⟩ = a := rfl
  have eb : S44.b ⟨(a : Int), (b : Int), (c : Int)⟩ = b := rfl
  have ec : S44.c ⟨(a : Int), (b : Int), (c : Int)⟩ = c := rfl
  rw [ea] at ha8
  rw [eb] at hb8
  rw [ec] at hc8
  rw [ea, eb, ec] at hZ
  have hij : 2 ^ a ||| 2 ^ b < 256 := Nat.or_lt_two_pow (n := 8) (two_256 ha8) (two_256 hb8)
  have hor := low_or (two_256 ha8) (two_256 hb8)
  have HCM : Aside0 (∀ (w : World), Below W.heap.size W w → Calls Tryd.prog 69 #[v, .int .i64 ((2 ^ a ||| 2 ^ b : Nat) : Int)] w fun e w' => e = .returned (.int .i64 ((BT.common (2 ^ a ||| 2 ^ b) t : Nat) : Int)) ∧ Below w.heap.size w w') := ⟨fun w hb => common_calls _ hij t hg _ v w (hv.below hb : TrV w ok v t)⟩
  have hwa := wrap_two ha8
  have hwb := wrap_two hb8
  have hq8 : BT.common (2 ^ a ||| 2 ^ b) t < 256 := lt_of_bits (k := 8) fun i hi => good_lt hg i (common_sub i hi)
  have hand := and_one (BT.common (2 ^ a ||| 2 ^ b) t) c hq8
  clear hij hg hv ea eb ec h00 h10 h20
  generalize ((2 ^ a ||| 2 ^ b : Nat) : Int) = pr at HCM hor
  generalize BT.common (2 ^ a ||| 2 ^ b) t = q at HCM hand hZ hq8
  generalize ((2 ^ a : Nat) : Int) = XA at hwa hor
  generalize ((2 ^ b : Nat) : Int) = XB at hwb hor
  have hqi : (0 : Int) ≤ (q : Int) := by omega
  go_enter Tryd.func59, Tryd.ntmps59
  go_upto_region 1 with fail
  have HNEW : Aside0 ((W.alloc (.cells #[.int .i64 (a : Int), .int .i64 (b : Int), .int .i64 (c : Int)] 44)).heap[W.heap.size]? = some (.cells #[.int .i64 (a : Int), .int .i64 (b : Int), .int .i64 (c : Int)] 44 (0, 0))) := ⟨heap_alloc_new W _⟩
  have HB4 : Aside0 (Below W.heap.size W (W.alloc (.cells #[.int .i64 (a : Int), .int .i64 (b : Int), .int .i64 (c : Int)] 44))) := ⟨(Below.refl _ _).alloc (Nat.le_refl _) _⟩
  generalize W.alloc (.cells #[.int .i64 (a : Int), .int .i64 (b : Int), .int .i64 (c : Int)] 44) = w4 at HNEW HB4 ⊢
  generalize hgb : W.heap.size = gb at HNEW ⊢
  clear hgb
  obtain ⟨c0, c1, c2, _⟩ := cells3 HNEW.out
  cases hbit : q.testBit c with
  | true =>
    rw [hbit, if_pos rfl] at hand
    have HZ : Aside0 (false = Z) := ⟨by rw [← hZ, hbit]; rfl⟩
    clear hZ hbit
    refine wp_region_noPanic ?_
    refine wp_region_held_drew (S := fun w' => w'.cell? ⟨gb, 0, none⟩ = some (.int .i64 (a : Int)) ∧ w'.cell? ⟨gb, 1, none⟩ = some (.int .i64 (b : Int)) ∧ w'.cell? ⟨gb, 2, none⟩ = some (.int .i64 (c : Int))) (by kernel_rfl) (⟨c0, c1, c2⟩) (fun hHeld => ?_)
    refine H_on 0 5 ?vs0 rfl rfl (by kernel_rfl) (by kernel_rfl) (by kernel_rfl) (by rfl) ?hs0 hHeld ?rs0
    case hs0 => (intro w hSw; obtain ⟨s0, s1, s2⟩ := hSw; go_simp <;> with_reducible rfl)
    simp only [Act.put, List.setIfInBounds_toArray, List.set_cons_zero, List.set_cons_succ]
    refine H_on 1 6 ?vs1 rfl rfl (by kernel_rfl) (by kernel_rfl) (by kernel_rfl) (by rfl) ?hs1 hHeld ?rs1
    case hs1 => (intro w hSw; obtain ⟨s0, s1, s2⟩ := hSw; go_simp <;> with_reducible rfl)
    simp only [Act.put, List.setIfInBounds_toArray, List.set_cons_zero, List.set_cons_succ]
    refine H_on 2 7 ?vs2 rfl rfl (by kernel_rfl) (by kernel_rfl) (by kernel_rfl) (by rfl) ?hs2 hHeld ?rs2
    case hs2 => (intro w hSw; obtain ⟨s0, s1, s2⟩ := hSw; go_simp <;> with_reducible rfl)
    simp only [Act.put, List.setIfInBounds_toArray, List.set_cons_zero, List.set_cons_succ]
    refine H_on 3 8 ?vs3 rfl rfl (by kernel_rfl) (by kernel_rfl) (by kernel_rfl) (by rfl) ?hs3 hHeld ?rs3
    case hs3 => (intro w hSw; obtain ⟨s0, s1, s2⟩ := hSw; go_simp <;> with_reducible rfl)
    simp only [Act.put, List.setIfInBounds_toArray, List.set_cons_zero, List.set_cons_succ]
    refine H_on 4 9 ?vs4 rfl rfl (by kernel_rfl) (by kernel_rfl) (by kernel_rfl) (by rfl) ?hs4 hHeld ?rs4
    case hs4 => (intro w hSw; obtain ⟨s0, s1, s2⟩ := hSw; go_simp <;> with_reducible rfl)
    simp only [Act.put, List.setIfInBounds_toArray, List.set_cons_zero, List.set_cons_succ]
    refine H_on 5 10 ?vs5 rfl rfl (by kernel_rfl) (by kernel_rfl) (by kernel_rfl) (by rfl) ?hs5 hHeld ?rs5
    case hs5 => (intro w hSw; obtain ⟨s0, s1, s2⟩ := hSw; go_simp <;> with_reducible rfl)
    simp only [Act.put, List.setIfInBounds_toArray, List.set_cons_zero, List.set_cons_succ]
    refine H_on 6 11 ?vs6 rfl rfl (by kernel_rfl) (by kernel_rfl) (by kernel_rfl) (by rfl) ?hs6 hHeld ?rs6
    case hs6 => (intro w hSw; obtain ⟨s0, s1, s2⟩ := hSw; go_simp <;> with_reducible rfl)
    simp only [Act.put, List.setIfInBounds_toArray, List.set_cons_zero, List.set_cons_succ]
    refine H_on 7 12 ?vs7 rfl rfl (by kernel_rfl) (by kernel_rfl) (by kernel_rfl) (by rfl) ?hs7 hHeld ?rs7
    case hs7 => (intro w hSw; obtain ⟨s0, s1, s2⟩ := hSw; go_simp <;> with_reducible rfl)
    simp only [Act.put, List.setIfInBounds_toArray, List.set_cons_zero, List.set_cons_succ]
    refine H_on 9 14 ?vs9 rfl rfl (by kernel_rfl) (by kernel_rfl) (by kernel_rfl) (by rfl) ?hs9 hHeld ?rs9
    case hs9 => (intro w hSw; obtain ⟨s0, s1, s2⟩ := hSw; go_simp <;> with_reducible rfl)
    simp only [Act.put, List.setIfInBounds_toArray, List.set_cons_zero, List.set_cons_succ]
    refine H_on 10 15 ?vs10 rfl rfl (by kernel_rfl) (by kernel_rfl) (by kernel_rfl) (by rfl) ?hs10 hHeld ?rs10
    case hs10 => (intro w hSw; obtain ⟨s0, s1, s2⟩ := hSw; go_simp <;> with_reducible rfl)
    simp only [Act.put, List.setIfInBounds_toArray, List.set_cons_zero, List.set_cons_succ]
    refine wpAnyH_ready (rs := [8]) (by kernel_rfl) (by simp) ?_
    refine AllReadyH.cons rfl (fun K hK => ?_) AllReadyH.nil
    go_simp
    refine (HCM.out _ (below_drew HB4.out)).mono ?_
    rintro e w5 ⟨rfl, hb5⟩
    have hN5 := hb5.block gb (by have := blk_lt HNEW.out; exact this)
    have HN5 : Aside0 (w5.heap[gb]? = some (.cells #[.int .i64 (a : Int), .int .i64 (b : Int), .int .i64 (c : Int)] 44 (0, 0))) := ⟨hN5.trans HNEW.out⟩
    have HB6 : Aside0 (Below W.heap.size W w5) := ⟨below_then (below_drew HB4.out) (below_drew HB4.out).size hb5⟩
    clear hb5 hN5
    obtain ⟨d0, d1, d2, _⟩ := cells3 HN5.out
    go_wp2_with fail
    refine hK.out _ _ (⟨d0, d1, d2⟩) (fun hHeld => ?_)
    clear hK K
    try simp only [Act.put, List.setIfInBounds_toArray, List.set_cons_zero, List.set_cons_succ]
    refine H_on 11 16 ?vs11 rfl rfl (by kernel_rfl) (by kernel_rfl) (by kernel_rfl) (by rfl) ?hs11 hHeld ?rs11
    case hs11 => (intro w hSw; obtain ⟨s0, s1, s2⟩ := hSw; go_simp <;> with_reducible rfl)
    simp only [Act.put, List.setIfInBounds_toArray, List.set_cons_zero, List.set_cons_succ]
    refine H_on 12 17 ?vs12 rfl rfl (by kernel_rfl) (by kernel_rfl) (by kernel_rfl) (by rfl) ?hs12 hHeld ?rs12
    case hs12 => (intro w hSw; obtain ⟨s0, s1, s2⟩ := hSw; go_simp <;> with_reducible rfl)
    simp only [Act.put, List.setIfInBounds_toArray, List.set_cons_zero, List.set_cons_succ]
    refine H_on 13 18 ?vs13 rfl rfl (by kernel_rfl) (by kernel_rfl) (by kernel_rfl) (by rfl) ?hs13 hHeld ?rs13
    case hs13 => (intro w hSw; obtain ⟨s0, s1, s2⟩ := hSw; go_simp <;> with_reducible rfl)
    simp only [Act.put, List.setIfInBounds_toArray, List.set_cons_zero, List.set_cons_succ]
    refine H_on 14 4 ?vs14 rfl rfl (by kernel_rfl) (by kernel_rfl) (by kernel_rfl) (by rfl) ?hs14 hHeld ?rs14
    case hs14 => (intro w hSw; obtain ⟨s0, s1, s2⟩ := hSw; go_simp <;> with_reducible rfl)
    simp only [Act.put, List.setIfInBounds_toArray, List.set_cons_zero, List.set_cons_succ]
    refine wpAnyH_done (by kernel_rfl) ?_ _
    refine NoPanic.normal ?_
    clear hHeld
    go_wp2
    go_ret
    exact ⟨by rw [← HZ.out]; rfl, HB6.out⟩
  | false =>
    rw [hbit, if_neg Bool.false_ne_true] at hand
    have HZ : Aside0 (true = Z) := ⟨by rw [← hZ, hbit]; rfl⟩
    clear hZ hbit
    refine wp_region_noPanic ?_
    refine wp_region_held_drew (S := fun w' => w'.cell? ⟨gb, 0, none⟩ = some (.int .i64 (a : Int)) ∧ w'.cell? ⟨gb, 1, none⟩ = some (.int .i64 (b : Int)) ∧ w'.cell? ⟨gb, 2, none⟩ = some (.int .i64 (c : Int))) (by kernel_rfl) (⟨c0, c1, c2⟩) (fun hHeld => ?_)
    refine H_on 0 5 ?vu0 rfl rfl (by kernel_rfl) (by kernel_rfl) (by kernel_rfl) (by rfl) ?hu0 hHeld ?ru0
    case hu0 => (intro w hSw; obtain ⟨s0, s1, s2⟩ := hSw; go_simp <;> with_reducible rfl)
    simp only [Act.put, List.setIfInBounds_toArray, List.set_cons_zero, List.set_cons_succ]
    refine H_on 1 6 ?vu1 rfl rfl (by kernel_rfl) (by kernel_rfl) (by kernel_rfl) (by rfl) ?hu1 hHeld ?ru1
    case hu1 => (intro w hSw; obtain ⟨s0, s1, s2⟩ := hSw; go_simp <;> with_reducible rfl)
    simp only [Act.put, List.setIfInBounds_toArray, List.set_cons_zero, List.set_cons_succ]
    refine H_on 2 7 ?vu2 rfl rfl (by kernel_rfl) (by kernel_rfl) (by kernel_rfl) (by rfl) ?hu2 hHeld ?ru2
    case hu2 => (intro w hSw; obtain ⟨s0, s1, s2⟩ := hSw; go_simp <;> with_reducible rfl)
    simp only [Act.put, List.setIfInBounds_toArray, List.set_cons_zero, List.set_cons_succ]
    refine H_on 3 8 ?vu3 rfl rfl (by kernel_rfl) (by kernel_rfl) (by kernel_rfl) (by rfl) ?hu3 hHeld ?ru3
    case hu3 => (intro w hSw; obtain ⟨s0, s1, s2⟩ := hSw; go_simp <;> with_reducible rfl)
    simp only [Act.put, List.setIfInBounds_toArray, List.set_cons_zero, List.set_cons_succ]
    refine H_on 4 9 ?vu4 rfl rfl (by kernel_rfl) (by kernel_rfl) (by kernel_rfl) (by rfl) ?hu4 hHeld ?ru4
    case hu4 => (intro w hSw; obtain ⟨s0, s1, s2⟩ := hSw; go_simp <;> with_reducible rfl)
    simp only [Act.put, List.setIfInBounds_toArray, List.set_cons_zero, List.set_cons_succ]
    refine H_on 5 10 ?vu5 rfl rfl (by kernel_rfl) (by kernel_rfl) (by kernel_rfl) (by rfl) ?hu5 hHeld ?ru5
    case hu5 => (intro w hSw; obtain ⟨s0, s1, s2⟩ := hSw; go_simp <;> with_reducible rfl)
    simp only [Act.put, List.setIfInBounds_toArray, List.set_cons_zero, List.set_cons_succ]
    refine H_on 6 11 ?vu6 rfl rfl (by kernel_rfl) (by kernel_rfl) (by kernel_rfl) (by rfl) ?hu6 hHeld ?ru6
    case hu6 => (intro w hSw; obtain ⟨s0, s1, s2⟩ := hSw; go_simp <;> with_reducible rfl)
    simp only [Act.put, List.setIfInBounds_toArray, List.set_cons_zero, List.set_cons_succ]
    refine H_on 7 12 ?vu7 rfl rfl (by kernel_rfl) (by kernel_rfl) (by kernel_rfl) (by rfl) ?hu7 hHeld ?ru7
    case hu7 => (intro w hSw; obtain ⟨s0, s1, s2⟩ := hSw; go_simp <;> with_reducible rfl)
    simp only [Act.put, List.setIfInBounds_toArray, List.set_cons_zero, List.set_cons_succ]
    refine H_on 9 14 ?vu9 rfl rfl (by kernel_rfl) (by kernel_rfl) (by kernel_rfl) (by rfl) ?hu9 hHeld ?ru9
    case hu9 => (intro w hSw; obtain ⟨s0, s1, s2⟩ := hSw; go_simp <;> with_reducible rfl)
    simp only [Act.put, List.setIfInBounds_toArray, List.set_cons_zero, List.set_cons_succ]
    refine H_on 10 15 ?vu10 rfl rfl (by kernel_rfl) (by kernel_rfl) (by kernel_rfl) (by rfl) ?hu10 hHeld ?ru10
    case hu10 => (intro w hSw; obtain ⟨s0, s1, s2⟩ := hSw; go_simp <;> with_reducible rfl)
    simp only [Act.put, List.setIfInBounds_toArray, List.set_cons_zero, List.set_cons_succ]
    refine wpAnyH_ready (rs := [8]) (by kernel_rfl) (by simp) ?_
    refine AllReadyH.cons rfl (fun K hK => ?_) AllReadyH.nil
    go_simp
    refine (HCM.out _ (below_drew HB4.out)).mono ?_
    rintro e w5 ⟨rfl, hb5⟩
    have hN5 := hb5.block gb (by have := blk_lt HNEW.out; exact this)
    have HN5 : Aside0 (w5.heap[gb]? = some (.cells #[.int .i64 (a : Int), .int .i64 (b : Int), .int .i64 (c : Int)] 44 (0, 0))) := ⟨hN5.trans HNEW.out⟩
    have HB6 : Aside0 (Below W.heap.size W w5) := ⟨below_then (below_drew HB4.out) (below_drew HB4.out).size hb5⟩
    clear hb5 hN5
    obtain ⟨d0, d1, d2, _⟩ := cells3 HN5.out
    go_wp2_with fail
    refine hK.out _ _ (⟨d0, d1, d2⟩) (fun hHeld => ?_)
    clear hK K
    try simp only [Act.put, List.setIfInBounds_toArray, List.set_cons_zero, List.set_cons_succ]
    refine H_on 11 16 ?vu11 rfl rfl (by kernel_rfl) (by kernel_rfl) (by kernel_rfl) (by rfl) ?hu11 hHeld ?ru11
    case hu11 => (intro w hSw; obtain ⟨s0, s1, s2⟩ := hSw; go_simp <;> with_reducible rfl)
    simp only [Act.put, List.setIfInBounds_toArray, List.set_cons_zero, List.set_cons_succ]
    refine H_on 12 17 ?vu12 rfl rfl (by kernel_rfl) (by kernel_rfl) (by kernel_rfl) (by rfl) ?hu12 hHeld ?ru12
    case hu12 => (intro w hSw; obtain ⟨s0, s1, s2⟩ := hSw; go_simp <;> with_reducible rfl)
    simp only [Act.put, List.setIfInBounds_toArray, List.set_cons_zero, List.set_cons_succ]
    refine H_on 13 18 ?vu13 rfl rfl (by kernel_rfl) (by kernel_rfl) (by kernel_rfl) (by rfl) ?hu13 hHeld ?ru13
    case hu13 => (intro w hSw; obtain ⟨s0, s1, s2⟩ := hSw; go_simp <;> with_reducible rfl)
    simp only [Act.put, List.setIfInBounds_toArray, List.set_cons_zero, List.set_cons_succ]
    refine H_on 14 4 ?vu14 rfl rfl (by kernel_rfl) (by kernel_rfl) (by kernel_rfl) (by rfl) ?hu14 hHeld ?ru14
    case hu14 => (intro w hSw; obtain ⟨s0, s1, s2⟩ := hSw; go_simp <;> with_reducible rfl)
    simp only [Act.put, List.setIfInBounds_toArray, List.set_cons_zero, List.set_cons_succ]
    refine wpAnyH_done (by kernel_rfl) ?_ _
    refine NoPanic.normal ?_
    clear hHeld
    go_wp2
    go_ret
    exact ⟨by rw [← HZ.out]; rfl, HB6.out⟩
end Go.Proofs.YtdbbcngmnpejnaaDoor.B

/- The closures of Shows and Triples; breed.Shows, IsTree and Joined, walked. (Printed by gen_d18.py.) -/
namespace Go.Proofs.YtdbbcngmnpejnaaDoor.B
open Go.Proofs.YtdbbcngmnpejnaaDoor.A
open Go.RowKit Go.Proofs.YtdbbcngmnpejnaaDoorW.PrintWords Go.Proofs.YtdbbcngmnpejnaaDoorW.PrintMore

set_option maxRecDepth 100000 in
set_option maxHeartbeats 3200000 in
theorem clo58_calls (t : BT) (hg : t.Good) (l : List S44) (hl : ∀ x ∈ l, Tri8 x) (b8 g cap : Nat) (T : TypeId) (u : Value) (ok : Nat → Prop) (w : World) (h8 : w.cell? ⟨b8, 0, none⟩ = some (.slice (some ⟨g, 0, none⟩) 1 cap)) (hc : w.cell? ⟨g, 0, none⟩ = some (.iface T u)) (hv : TrV w ok (.iface T u) t) :
    PredB 58 #[.pointer (some ⟨b8, 0, none⟩)] (fun x => !showsT t x) l w := by
  intro W x hx hb
  have HL8 : Aside0 (b8 < w.heap.size) := ⟨World.block_lt_of_cell? w _ h8⟩
  have HLG : Aside0 (g < w.heap.size) := ⟨World.block_lt_of_cell? w _ hc⟩
  have H8 := Aside0.mk h8
  have HG := Aside0.mk hc
  have HS : Aside0 (∀ w1, Below w.heap.size w w1 → Calls Tryd.prog 59 #[.iface T u, enc44 x] w1 fun e w' => e = .returned (.bool (showsT t x)) ∧ Below w1.heap.size w1 w') := ⟨fun w1 h => shows_calls t hg x (hl x hx) ok _ w1 (hv.below h)⟩
  have HBW := Aside0.mk hb
  clear hx hb h8 hc hv
  show Calls Tryd.prog 58 #[enc44 x, .pointer (some ⟨b8, 0, none⟩)] W fun e w' => e = .returned (.bool (!showsT t x)) ∧ Below w.heap.size w w'
  generalize showsT t x = z at HS ⊢
  obtain ⟨t0, t1, t2⟩ := x
  unfold enc44 at HS ⊢
  dsimp only at HS ⊢
  go_enter Tryd.func58, Tryd.ntmps58
  go_upto_region 1 with fail
  have HNEW : Aside0 ((W.alloc (.cells #[.int .i64 t0, .int .i64 t1, .int .i64 t2] 44)).heap[W.heap.size]? = some (.cells #[.int .i64 t0, .int .i64 t1, .int .i64 t2] 44 (0, 0))) := ⟨heap_alloc_new W _⟩
  have HB4 : Aside0 (Below w.heap.size w (W.alloc (.cells #[.int .i64 t0, .int .i64 t1, .int .i64 t2] 44))) := ⟨below_alloc HBW.out _⟩
  generalize W.alloc (.cells #[.int .i64 t0, .int .i64 t1, .int .i64 t2] 44) = w4 at HNEW HB4 ⊢
  generalize W.heap.size = gb at HNEW ⊢
  obtain ⟨c0, c1, c2, _⟩ := cells3 HNEW.out
  have e0 : w4.cell? ⟨b8, 0, none⟩ = some (.slice (some ⟨g, 0, none⟩) 1 cap) := (World.cell?_of_block (HB4.out.block b8 HL8.out)).trans H8.out
  have e1 : w4.cell? ⟨g, 0, none⟩ = some (.iface T u) := (World.cell?_of_block (HB4.out.block g HLG.out)).trans HG.out
  refine wp_region_noPanic ?_
  refine wp_region_held_drew (S := fun w' => w'.cell? ⟨b8, 0, none⟩ = some (.slice (some ⟨g, 0, none⟩) 1 cap) ∧ w'.cell? ⟨g, 0, none⟩ = some (.iface T u) ∧ w'.cell? ⟨gb, 0, none⟩ = some (.int .i64 t0) ∧ w'.cell? ⟨gb, 1, none⟩ = some (.int .i64 t1) ∧ w'.cell? ⟨gb, 2, none⟩ = some (.int .i64 t2)) (by kernel_rfl) (⟨e0, e1, c0, c1, c2⟩) (fun hHeld => ?_)
  refine H_on 0 4 ?vc580 rfl rfl (by kernel_rfl) (by kernel_rfl) (by kernel_rfl) (by rfl) ?hc580 hHeld ?rc580
  case hc580 => (intro w hSw; obtain ⟨s0, s1, s2, s3, s4⟩ := hSw; go_simp <;> with_reducible rfl)
  simp only [Act.put, List.setIfInBounds_toArray, List.set_cons_zero, List.set_cons_succ]
  refine H_on 1 5 ?vc581 rfl rfl (by kernel_rfl) (by kernel_rfl) (by kernel_rfl) (by rfl) ?hc581 hHeld ?rc581
  case hc581 => (intro w hSw; obtain ⟨s0, s1, s2, s3, s4⟩ := hSw; go_simp <;> with_reducible rfl)
  simp only [Act.put, List.setIfInBounds_toArray, List.set_cons_zero, List.set_cons_succ]
  refine H_on 2 6 ?vc582 rfl rfl (by kernel_rfl) (by kernel_rfl) (by kernel_rfl) (by rfl) ?hc582 hHeld ?rc582
  case hc582 => (intro w hSw; obtain ⟨s0, s1, s2, s3, s4⟩ := hSw; go_simp <;> with_reducible rfl)
  simp only [Act.put, List.setIfInBounds_toArray, List.set_cons_zero, List.set_cons_succ]
  refine H_on 3 7 ?vc583 rfl rfl (by kernel_rfl) (by kernel_rfl) (by kernel_rfl) (by rfl) ?hc583 hHeld ?rc583
  case hc583 => (intro w hSw; obtain ⟨s0, s1, s2, s3, s4⟩ := hSw; go_simp <;> with_reducible rfl)
  simp only [Act.put, List.setIfInBounds_toArray, List.set_cons_zero, List.set_cons_succ]
  refine wpAnyH_ready (rs := [4]) (by kernel_rfl) (by simp) ?_
  refine AllReadyH.cons rfl (fun K hK => ?_) AllReadyH.nil
  go_simp
  refine (HS.out _ (below_drew HB4.out)).mono ?_
  rintro e w5 ⟨rfl, hb5⟩
  have HB6 : Aside0 (Below w.heap.size w w5) := ⟨below_then (below_drew HB4.out) (below_drew HB4.out).size hb5⟩
  have hN5 := (hb5.block gb (by have := blk_lt HNEW.out; exact this)).trans HNEW.out
  have f0 : w5.cell? ⟨b8, 0, none⟩ = some (.slice (some ⟨g, 0, none⟩) 1 cap) := (World.cell?_of_block (HB6.out.block b8 HL8.out)).trans H8.out
  have f1 : w5.cell? ⟨g, 0, none⟩ = some (.iface T u) := (World.cell?_of_block (HB6.out.block g HLG.out)).trans HG.out
  obtain ⟨d0, d1, d2, _⟩ := cells3 hN5
  clear hb5 hN5
  go_wp2_with fail
  refine hK.out _ _ (⟨f0, f1, d0, d1, d2⟩) (fun hHeld => ?_)
  clear hK K
  try simp only [Act.put, List.setIfInBounds_toArray, List.set_cons_zero, List.set_cons_succ]
  refine H_on 5 9 ?vc585 rfl rfl (by kernel_rfl) (by kernel_rfl) (by kernel_rfl) (by rfl) ?hc585 hHeld ?rc585
  case hc585 => (intro w hSw; obtain ⟨s0, s1, s2, s3, s4⟩ := hSw; go_simp <;> with_reducible rfl)
  simp only [Act.put, List.setIfInBounds_toArray, List.set_cons_zero, List.set_cons_succ]
  refine H_on 6 3 ?vc586 rfl rfl (by kernel_rfl) (by kernel_rfl) (by kernel_rfl) (by rfl) ?hc586 hHeld ?rc586
  case hc586 => (intro w hSw; obtain ⟨s0, s1, s2, s3, s4⟩ := hSw; go_simp <;> with_reducible rfl)
  simp only [Act.put, List.setIfInBounds_toArray, List.set_cons_zero, List.set_cons_succ]
  refine wpAnyH_done (by kernel_rfl) ?_ _
  refine NoPanic.normal ?_
  clear hHeld
  go_wp2
  go_ret
  exact ⟨rfl, HB6.out⟩
set_option maxRecDepth 100000 in
set_option maxHeartbeats 3200000 in
theorem clo65_calls (t : BT) (hg : t.Good) (l : List S44) (hl : ∀ x ∈ l, Tri8 x) (b8 g cap : Nat) (T : TypeId) (u : Value) (ok : Nat → Prop) (w : World) (h8 : w.cell? ⟨b8, 0, none⟩ = some (.slice (some ⟨g, 0, none⟩) 1 cap)) (hc : w.cell? ⟨g, 0, none⟩ = some (.iface T u)) (hv : TrV w ok (.iface T u) t) :
    PredB 65 #[.pointer (some ⟨b8, 0, none⟩)] (fun x => !showsT t x) l w := by
  intro W x hx hb
  have HL8 : Aside0 (b8 < w.heap.size) := ⟨World.block_lt_of_cell? w _ h8⟩
  have HLG : Aside0 (g < w.heap.size) := ⟨World.block_lt_of_cell? w _ hc⟩
  have H8 := Aside0.mk h8
  have HG := Aside0.mk hc
  have HS : Aside0 (∀ w1, Below w.heap.size w w1 → Calls Tryd.prog 59 #[.iface T u, enc44 x] w1 fun e w' => e = .returned (.bool (showsT t x)) ∧ Below w1.heap.size w1 w') := ⟨fun w1 h => shows_calls t hg x (hl x hx) ok _ w1 (hv.below h)⟩
  have HBW := Aside0.mk hb
  clear hx hb h8 hc hv
  show Calls Tryd.prog 65 #[enc44 x, .pointer (some ⟨b8, 0, none⟩)] W fun e w' => e = .returned (.bool (!showsT t x)) ∧ Below w.heap.size w w'
  generalize showsT t x = z at HS ⊢
  obtain ⟨t0, t1, t2⟩ := x
  unfold enc44 at HS ⊢
  dsimp only at HS ⊢
  go_enter Tryd.func65, Tryd.ntmps65
  go_upto_region 1 with fail
  have HNEW : Aside0 ((W.alloc (.cells #[.int .i64 t0, .int .i64 t1, .int .i64 t2] 44)).heap[W.heap.size]? = some (.cells #[.int .i64 t0, .int .i64 t1, .int .i64 t2] 44 (0, 0))) := ⟨heap_alloc_new W _⟩
  have HB4 : Aside0 (Below w.heap.size w (W.alloc (.cells #[.int .i64 t0, .int .i64 t1, .int .i64 t2] 44))) := ⟨below_alloc HBW.out _⟩
  generalize W.alloc (.cells #[.int .i64 t0, .int .i64 t1, .int .i64 t2] 44) = w4 at HNEW HB4 ⊢
  generalize W.heap.size = gb at HNEW ⊢
  obtain ⟨c0, c1, c2, _⟩ := cells3 HNEW.out
  have e0 : w4.cell? ⟨b8, 0, none⟩ = some (.slice (some ⟨g, 0, none⟩) 1 cap) := (World.cell?_of_block (HB4.out.block b8 HL8.out)).trans H8.out
  have e1 : w4.cell? ⟨g, 0, none⟩ = some (.iface T u) := (World.cell?_of_block (HB4.out.block g HLG.out)).trans HG.out
  refine wp_region_noPanic ?_
  refine wp_region_held_drew (S := fun w' => w'.cell? ⟨b8, 0, none⟩ = some (.slice (some ⟨g, 0, none⟩) 1 cap) ∧ w'.cell? ⟨g, 0, none⟩ = some (.iface T u) ∧ w'.cell? ⟨gb, 0, none⟩ = some (.int .i64 t0) ∧ w'.cell? ⟨gb, 1, none⟩ = some (.int .i64 t1) ∧ w'.cell? ⟨gb, 2, none⟩ = some (.int .i64 t2)) (by kernel_rfl) (⟨e0, e1, c0, c1, c2⟩) (fun hHeld => ?_)
  refine H_on 0 4 ?vc650 rfl rfl (by kernel_rfl) (by kernel_rfl) (by kernel_rfl) (by rfl) ?hc650 hHeld ?rc650
  case hc650 => (intro w hSw; obtain ⟨s0, s1, s2, s3, s4⟩ := hSw; go_simp <;> with_reducible rfl)
  simp only [Act.put, List.setIfInBounds_toArray, List.set_cons_zero, List.set_cons_succ]
  refine H_on 1 5 ?vc651 rfl rfl (by kernel_rfl) (by kernel_rfl) (by kernel_rfl) (by rfl) ?hc651 hHeld ?rc651
  case hc651 => (intro w hSw; obtain ⟨s0, s1, s2, s3, s4⟩ := hSw; go_simp <;> with_reducible rfl)
  simp only [Act.put, List.setIfInBounds_toArray, List.set_cons_zero, List.set_cons_succ]
  refine H_on 2 6 ?vc652 rfl rfl (by kernel_rfl) (by kernel_rfl) (by kernel_rfl) (by rfl) ?hc652 hHeld ?rc652
  case hc652 => (intro w hSw; obtain ⟨s0, s1, s2, s3, s4⟩ := hSw; go_simp <;> with_reducible rfl)
  simp only [Act.put, List.setIfInBounds_toArray, List.set_cons_zero, List.set_cons_succ]
  refine H_on 3 7 ?vc653 rfl rfl (by kernel_rfl) (by kernel_rfl) (by kernel_rfl) (by rfl) ?hc653 hHeld ?rc653
  case hc653 => (intro w hSw; obtain ⟨s0, s1, s2, s3, s4⟩ := hSw; go_simp <;> with_reducible rfl)
  simp only [Act.put, List.setIfInBounds_toArray, List.set_cons_zero, List.set_cons_succ]
  refine wpAnyH_ready (rs := [4]) (by kernel_rfl) (by simp) ?_
  refine AllReadyH.cons rfl (fun K hK => ?_) AllReadyH.nil
  go_simp
  refine (HS.out _ (below_drew HB4.out)).mono ?_
  rintro e w5 ⟨rfl, hb5⟩
  have HB6 : Aside0 (Below w.heap.size w w5) := ⟨below_then (below_drew HB4.out) (below_drew HB4.out).size hb5⟩
  have hN5 := (hb5.block gb (by have := blk_lt HNEW.out; exact this)).trans HNEW.out
  have f0 : w5.cell? ⟨b8, 0, none⟩ = some (.slice (some ⟨g, 0, none⟩) 1 cap) := (World.cell?_of_block (HB6.out.block b8 HL8.out)).trans H8.out
  have f1 : w5.cell? ⟨g, 0, none⟩ = some (.iface T u) := (World.cell?_of_block (HB6.out.block g HLG.out)).trans HG.out
  obtain ⟨d0, d1, d2, _⟩ := cells3 hN5
  clear hb5 hN5
  go_wp2_with fail
  refine hK.out _ _ (⟨f0, f1, d0, d1, d2⟩) (fun hHeld => ?_)
  clear hK K
  try simp only [Act.put, List.setIfInBounds_toArray, List.set_cons_zero, List.set_cons_succ]
  refine H_on 5 9 ?vc655 rfl rfl (by kernel_rfl) (by kernel_rfl) (by kernel_rfl) (by rfl) ?hc655 hHeld ?rc655
  case hc655 => (intro w hSw; obtain ⟨s0, s1, s2, s3, s4⟩ := hSw; go_simp <;> with_reducible rfl)
  simp only [Act.put, List.setIfInBounds_toArray, List.set_cons_zero, List.set_cons_succ]
  refine H_on 6 3 ?vc656 rfl rfl (by kernel_rfl) (by kernel_rfl) (by kernel_rfl) (by rfl) ?hc656 hHeld ?rc656
  case hc656 => (intro w hSw; obtain ⟨s0, s1, s2, s3, s4⟩ := hSw; go_simp <;> with_reducible rfl)
  simp only [Act.put, List.setIfInBounds_toArray, List.set_cons_zero, List.set_cons_succ]
  refine wpAnyH_done (by kernel_rfl) ?_ _
  refine NoPanic.normal ?_
  clear hHeld
  go_wp2
  go_ret
  exact ⟨rfl, HB6.out⟩

theorem rem_calls (n : Int) (A : Option Addr) (c : Nat) (l : List S44) (W : World) (hr : Kd.C k44 W A l.length l) (hc : l.length ≤ c) : Calls Tryd.prog 56 #[.int .i64 n, .slice A l.length c] W fun e w' => e = .returned (.int .i64 (listE n l)) ∧ Below W.heap.size W w' := by
  obtain ⟨k, hk⟩ := rem_some n l
  exact (breed_remembered.calls k n A c l _ W hr hc hk).mono fun _ _ ⟨p, q⟩ => ⟨p, q⟩
/-! ### Shows -/
def showsE (n : Int) (L : List UInt8) (l : List S44) : Bool × Int := match parseE n L with
  | none => (false, errT n)
  | some t => if listE n l = 0 then (l.all (showsT t), 0) else (false, listE n l)
theorem all_any (t : BT) (l : List S44) : (!l.any fun x => !showsT t x) = l.all (showsT t) := by
  induction l with
  | nil => rfl
  | cons x l ih => rw [List.any_cons, List.all_cons, Bool.not_or, ih, Bool.not_not]
set_option maxRecDepth 100000 in
set_option maxHeartbeats 3200000 in
theorem Shows_calls (n : Int) (L : List UInt8) (A : Option Addr) (c : Nat) (l : List S44) (W : World) (hr : Kd.C k44 W A l.length l) (hc : l.length ≤ c) (hT : TabAt W) :
    Calls Tryd.prog 28 #[.int .i64 n, .string (strB L), .slice A l.length c] W fun e w' => e = .returned (.tuple #[.bool (showsE n L l).1, .int .i64 (showsE n L l).2]) ∧ Below W.heap.size W w' := by
  have HT := Aside0.mk hT
  have HR := Aside0.mk hr
  obtain ⟨Z, hZ⟩ : ∃ Z, showsE n L l = Z := ⟨_, rfl⟩
  rw [hZ]
  unfold showsE at hZ
  have HC : Aside0 (Calls Tryd.prog 52 #[.int .i64 n, .slice (some ⟨W.heap.size, 0, none⟩) 1 1] (W.alloc (.cells #[.string (strB L)] 9)) fun e w' => ((parseE n L = none ∧ e = .returned (.tuple #[.slice none 0 0, .int .i64 (errT n)])) ∨
      ∃ (t : BT) (g cap : Nat) (T : TypeId) (u : Value), parseE n L = some t ∧ e = .returned (.tuple #[.slice (some ⟨g, 0, none⟩) 1 cap, .int .i64 0]) ∧ w'.cell? ⟨g, 0, none⟩ = some (.iface T u) ∧ TrV w' (fun _ => True) (.iface T u) t) ∧ Below W.heap.size W w') :=
    ⟨(read_one n W.heap.size 1 L _ (blk_cell (heap_alloc_new W (.cells #[.string (strB L)] 9)) 0) (HT.out.next ((Below.refl _ _).alloc (Nat.le_refl _) _))).mono fun e w' ⟨h1, h2⟩ => ⟨h1, below_then ((Below.refl _ W).alloc (Nat.le_refl _) _) ((Below.refl _ W).alloc (Nat.le_refl _) _).size h2⟩⟩
  generalize strB L = sb at HC ⊢
  have he0 := errT_ne n
  obtain ⟨e1, e2⟩ := errne he0
  have HREM : Aside0 (∀ w, Below W.heap.size W w → Calls Tryd.prog 56 #[.int .i64 n, .slice A l.length c] w fun e w' => e = .returned (.int .i64 (listE n l)) ∧ Below w.heap.size w w') := ⟨fun w hb => rem_calls n A c l w (Kd.C_below HR.out hb) hc⟩
  obtain ⟨len, hlen⟩ : ∃ len, l.length = len := ⟨_, rfl⟩
  have HL := Aside0.mk hlen
  rw [hlen] at HREM HR ⊢
  clear hr hc hlen
  cases hp : parseE n L with
  | none =>
    rw [hp] at hZ
    dsimp only at hZ
    subst hZ
    have HC2 : Aside0 (Calls Tryd.prog 52 #[.int .i64 n, .slice (some ⟨W.heap.size, 0, none⟩) 1 1] (W.alloc (.cells #[.string sb] 9)) fun e w' => e = .returned (.tuple #[.slice none 0 0, .int .i64 (errT n)]) ∧ Below W.heap.size W w') := ⟨HC.out.mono (by
      rintro e w' ⟨⟨_, h⟩ | ⟨t, _, _, _, _, h, _⟩, hb⟩
      · exact ⟨h, hb⟩
      · rw [hp] at h; cases h)⟩
    clear HC hp he0
    generalize errT n = E at *
    go_enter Tryd.func28, Tryd.ntmps28
    go_wp2_with (go_at_call 52; go_must (refine HC2.out.mono ?_; rintro e w1 ⟨rfl, hb1⟩; have HB1 := Aside0.mk hb1; clear hb1))
    go_ret2
    exact ⟨rfl, below_alloc HB1.out _⟩
  | some t =>
    rw [hp] at hZ
    dsimp only at hZ
    obtain ⟨hn1, hn8, hgt, hst⟩ := parseE_good hp
    have HG := Aside0.mk hgt
    have HC2 : Aside0 (Calls Tryd.prog 52 #[.int .i64 n, .slice (some ⟨W.heap.size, 0, none⟩) 1 1] (W.alloc (.cells #[.string sb] 9)) fun e w' => ∃ (g cap : Nat) (T : TypeId) (u : Value), e = .returned (.tuple #[.slice (some ⟨g, 0, none⟩) 1 cap, .int .i64 0]) ∧ w'.cell? ⟨g, 0, none⟩ = some (.iface T u) ∧ TrV w' (fun _ => True) (.iface T u) t ∧ Below W.heap.size W w') := ⟨HC.out.mono (by
      rintro e w' ⟨⟨h, _⟩ | ⟨t', g, cap, T, u, h, h1, h2, h3⟩, hb⟩
      · rw [hp] at h; cases h
      · rw [hp] at h; cases h; exact ⟨g, cap, T, u, h1, h2, h3, hb⟩)⟩
    clear HC hp he0 e1 e2 hst hgt
    by_cases h0 : listE n l = 0
    · rw [if_pos h0] at hZ
      rw [h0] at HREM
      obtain ⟨_, hok⟩ := listE_zero h0
      have HT8 : Aside0 (∀ x ∈ l, Tri8 x) := ⟨fun x hx => okTri_8 (by omega) (hok x hx)⟩
      have HZ := Aside0.mk hZ
      clear h0 hok hZ
      go_enter Tryd.func28, Tryd.ntmps28
      go_upto_region 2 with (go_at_call 52; go_must (refine HC2.out.mono ?_; rintro e w1 ⟨g, cap, T, u, rfl, hc1, ht1, hb1⟩; have HCG := Aside0.mk hc1; have HTV := Aside0.mk ht1; have HB1 := Aside0.mk hb1; clear hc1 ht1 hb1))
      have HN8 : Aside0 ((w1.alloc (.cells #[.slice (some ⟨g, 0, none⟩) 1 cap] 79)).heap[w1.heap.size]? = some (.cells #[.slice (some ⟨g, 0, none⟩) 1 cap] 79 (0, 0))) := ⟨heap_alloc_new w1 _⟩
      have HBA : Aside0 (Below w1.heap.size w1 (w1.alloc (.cells #[.slice (some ⟨g, 0, none⟩) 1 cap] 79))) := ⟨(Below.refl _ _).alloc (Nat.le_refl _) _⟩
      have HLG : Aside0 (g < w1.heap.size) := ⟨World.block_lt_of_cell? w1 _ HCG.out⟩
      generalize w1.alloc (.cells #[.slice (some ⟨g, 0, none⟩) 1 cap] 79) = w2 at HN8 HBA ⊢
      generalize hb8 : w1.heap.size = b8 at HN8 ⊢
      have HB2 := Aside0.mk (below_then HB1.out HB1.out.size HBA.out)
      have HCT : Aside0 (∀ w, Below w2.heap.size w2 w → Calls Tryd.prog 57 #[.slice A len c, .func (.func 58) #[] #[.pointer (some ⟨b8, 0, none⟩)]] w fun e w' => e = .returned (.bool (l.any fun x => !showsT t x)) ∧ Below w.heap.size w w') := ⟨fun w hb =>
        ContainsFunc_tri 58 #[.pointer (some ⟨b8, 0, none⟩)] (fun x => !showsT t x) enters58 A len c l w (Kd.C_below HR.out (below_then HB2.out HB2.out.size hb))
          (clo58_calls t HG.out l HT8.out b8 g cap T u (fun _ => True) w ((World.cell?_of_block (hb.block b8 (blk_lt HN8.out))).trans (blk_cell HN8.out 0)) ((World.cell?_of_block ((HBA.out.trans (hb.mono HBA.out.size)).block g HLG.out)).trans HCG.out) (HTV.out.below (HBA.out.trans (hb.mono HBA.out.size))))⟩
      go_wp2_with (first
        | (go_at_call 56; go_must (refine (HREM.out _ HB2.out).mono ?_; rintro e w3 ⟨rfl, hb3⟩; have HB3 := Aside0.mk hb3; clear hb3))
        | (go_at_call 57; go_must (refine (HCT.out _ HB3.out).mono ?_; rintro e w4 ⟨rfl, hb4⟩; have HB4 := Aside0.mk hb4; clear hb4)))
      go_ret2
      refine ⟨?_, below_then HB2.out HB2.out.size (HB3.out.trans (HB4.out.mono HB3.out.size))⟩
      rw [← HZ.out, ← all_any]
      rfl
    · rw [if_neg h0] at hZ
      subst hZ
      obtain ⟨e1, e2⟩ := errne h0
      clear h0
      generalize listE n l = E at *
      go_enter Tryd.func28, Tryd.ntmps28
      go_upto_region 2 with (go_at_call 52; go_must (refine HC2.out.mono ?_; rintro e w1 ⟨g, cap, T, u, rfl, hc1, ht1, hb1⟩; have HB1 := Aside0.mk hb1; clear hc1 ht1 hb1))
      have HB2 : Aside0 (Below W.heap.size W (w1.alloc (.cells #[.slice (some ⟨g, 0, none⟩) 1 cap] 79))) := ⟨below_alloc HB1.out _⟩
      generalize w1.alloc (.cells #[.slice (some ⟨g, 0, none⟩) 1 cap] 79) = w2 at HB2 ⊢
      go_wp2_with (go_at_call 56; go_must (refine (HREM.out _ HB2.out).mono ?_; rintro e w3 ⟨rfl, hb3⟩; have HB3 := Aside0.mk (below_then HB2.out HB2.out.size hb3); clear hb3))
      go_ret2
      exact ⟨rfl, HB3.out⟩
end Go.Proofs.YtdbbcngmnpejnaaDoor.B

/- breed.IsTree and breed.Joined, walked. -/
namespace Go.Proofs.YtdbbcngmnpejnaaDoor.B
open Go.Proofs.YtdbbcngmnpejnaaDoor.A
open Go.RowKit Go.Proofs.YtdbbcngmnpejnaaDoorW.PrintWords Go.Proofs.YtdbbcngmnpejnaaDoorW.PrintMore

set_option maxRecDepth 100000 in
set_option maxHeartbeats 1600000 in
theorem IsTree_calls (n : Int) (L : List UInt8) (W : World) (hT : TabAt W) :
    Calls Tryd.prog 32 #[.int .i64 n, .string (strB L)] W fun e w' => e = .returned (.bool (parseE n L).isSome) ∧ Below W.heap.size W w' := by
  have HT := Aside0.mk hT
  have HH := Aside0.mk (herd_calls n W)
  obtain ⟨Z, hZ⟩ : ∃ Z, (parseE n L).isSome = Z := ⟨_, rfl⟩
  rw [hZ]
  unfold parseE at hZ
  by_cases hn : 1 ≤ n ∧ n ≤ 8
  · rw [if_pos hn] at hZ
    rw [decide_eq_true hn] at HH
    obtain ⟨m, rfl⟩ : ∃ m : Nat, n = m := ⟨n.toNat, by omega⟩
    rw [Int.toNat_natCast] at hZ
    have HP : Aside0 (∀ w, Below W.heap.size W w → Calls Tryd.prog 61 #[.int .i64 m, .string (strB L)] w (TreePost (parseF m L) w)) := ⟨fun w hb => parse_calls m (by omega) (by omega) L w (HT.out.next hb)⟩
    generalize strB L = sb at HP ⊢
    clear hn
    cases hp : parseF m L with
    | none =>
      rw [hp] at HP hZ
      have HZ : Aside0 (false = Z) := ⟨hZ⟩
      have HC : Aside0 (∀ w, Below W.heap.size W w → Calls Tryd.prog 61 #[.int .i64 m, .string sb] w fun e w' => e = .returned .nilIface ∧ Below w.heap.size w w') := ⟨fun w hb => (HP.out w hb).mono (by
        rintro e w' ⟨⟨_, rfl⟩ | ⟨t, v, h, _⟩, hb⟩
        · exact ⟨rfl, hb⟩
        · cases h)⟩
      clear HP hp hZ
      go_enter Tryd.func32, Tryd.ntmps32
      go_wp2_with (first
        | (go_at_call 40; go_must (refine HH.out.mono ?_; rintro e w1 ⟨rfl, hb1⟩; have HB1 := Aside0.mk hb1; clear hb1))
        | (go_at_call 61; go_must (refine (HC.out _ HB1.out).mono ?_; rintro e w2 ⟨rfl, hb2⟩; have HB2 := Aside0.mk (below_then HB1.out HB1.out.size hb2); clear hb2)))
      go_ret
      exact ⟨by rw [← HZ.out]; rfl, HB2.out⟩
    | some t =>
      rw [hp] at HP hZ
      have HZ : Aside0 (true = Z) := ⟨hZ⟩
      have HC : Aside0 (∀ w, Below W.heap.size W w → Calls Tryd.prog 61 #[.int .i64 m, .string sb] w fun e w' => ∃ T u, e = .returned (.iface T u) ∧ Below w.heap.size w w') := ⟨fun w hb => (HP.out w hb).mono (by
        rintro e w' ⟨⟨h, _⟩ | ⟨t', v, h, rfl, ht⟩, hb⟩
        · cases h
        · obtain ⟨T, u, rfl, _⟩ := ht.ask
          exact ⟨T, u, rfl, hb⟩)⟩
      clear HP hp hZ
      go_enter Tryd.func32, Tryd.ntmps32
      go_wp2_with (first
        | (go_at_call 40; go_must (refine HH.out.mono ?_; rintro e w1 ⟨rfl, hb1⟩; have HB1 := Aside0.mk hb1; clear hb1))
        | (go_at_call 61; go_must (refine (HC.out _ HB1.out).mono ?_; rintro e w2 ⟨T, u, rfl, hb2⟩; have HB2 := Aside0.mk (below_then HB1.out HB1.out.size hb2); clear hb2)))
      go_ret
      exact ⟨by rw [← HZ.out]; rfl, HB2.out⟩
  · rw [if_neg hn] at hZ
    rw [decide_eq_false hn] at HH
    have HZ : Aside0 (false = Z) := ⟨hZ⟩
    clear hn hZ
    go_enter Tryd.func32, Tryd.ntmps32
    go_wp2_with (go_at_call 40; go_must (refine HH.out.mono ?_; rintro e w1 ⟨rfl, hb1⟩; have HB1 := Aside0.mk hb1; clear hb1))
    go_ret
    exact ⟨by rw [← HZ.out]; rfl, HB1.out⟩

/-! ### Joined -/
/-- The parts of a set, and the error. -/
def joinE (n : Int) (l : List S44) (s : Int) : List Int × Int := if askE n l = 0 then (if 1 ≤ s ∧ s < ((2 ^ n.toNat : Nat) : Int) then (joinedF l s.toNat, 0) else ([], 2)) else ([], askE n l)
def RowE (Z : List Int × Int) (W : World) (e : Ending) (w' : World) : Prop := ∃ v, e = .returned (.tuple #[v, .int .i64 Z.2]) ∧ (Kd.int .i64).R 3 w' W.heap.size (fun _ => True) v Z.1 ∧ Below W.heap.size W w'
set_option maxRecDepth 100000 in
set_option maxHeartbeats 1600000 in
theorem Joined_calls (n : Int) (A : Option Addr) (c : Nat) (l : List S44) (s : Int) (W : World) (hr : Kd.C k44 W A l.length l) (hc : l.length ≤ c) :
    Calls Tryd.prog 21 #[.int .i64 n, .slice A l.length c, .int .i64 s] W (RowE (joinE n l s) W) := by
  have HA := Aside0.mk (asked_calls n A c l W hr hc)
  have HR := Aside0.mk hr
  obtain ⟨Z, hZ⟩ : ∃ Z, joinE n l s = Z := ⟨_, rfl⟩
  rw [hZ]
  unfold joinE at hZ
  by_cases h0 : askE n l = 0
  · rw [if_pos h0] at hZ
    rw [h0] at HA
    obtain ⟨hn, hl, hok⟩ := askE_zero h0
    obtain ⟨m, rfl⟩ : ∃ m : Nat, n = m := ⟨n.toNat, by omega⟩
    rw [Int.toNat_natCast] at hZ
    have hm8 : m ≤ 8 := by omega
    have h8 : ∀ t ∈ l, Tri8 t := fun t ht => okTri_8 (by omega) (hok t ht)
    have hp := pow_256 hm8
    have HJ : Aside0 (∀ (s : Nat) w1, s < 256 → Below W.heap.size W w1 → Calls Tryd.prog 48 #[.slice A l.length c, .int .i64 (s : Int)] w1 fun e w' => ∃ v, e = .returned v ∧ Kd.R (Kd.int .i64) 3 w' w1.heap.size (fun _ => True) v (joinedF l s) ∧ Below w1.heap.size w1 w') := ⟨fun s w1 hs hb => joined_calls A c l s hs h8 (by omega) w1 (Kd.C_below HR.out hb)⟩
    have hw1 := wrap_pow hm8
    have hw2 := wrap64_pow hm8
    obtain ⟨len, hlen⟩ : ∃ len, l.length = len := ⟨_, rfl⟩
    rw [hlen] at HA HJ ⊢
    clear hr hc hn hl hok h8 hlen h0
    by_cases hs : 1 ≤ s ∧ s < ((2 ^ m : Nat) : Int)
    · rw [if_pos hs] at hZ
      obtain ⟨q, rfl⟩ : ∃ q : Nat, s = q := ⟨s.toNat, by omega⟩
      rw [Int.toNat_natCast] at hZ
      have hq8 : q < 256 := by omega
      have hs1 := hs.1
      have hs2 := hs.2
      have hs3 : ¬ ((q : Int) < 1) := by omega
      have HZ := Aside0.mk hZ
      generalize ((2 ^ m : Nat) : Int) = P at hw1 hw2 hs2
      clear hs hp hZ
      go_enter Tryd.func21, Tryd.ntmps21
      go_wp2_with (first
        | (go_at_call 43; go_must (refine HA.out.mono ?_; rintro e w1 ⟨rfl, hb1⟩; have HB1 := Aside0.mk hb1; clear hb1))
        | (go_at_call 48; go_must (refine (HJ.out q _ hq8 HB1.out).mono ?_; rintro e w4 ⟨v4, rfl, hR4, hb4⟩; have HR4 := Aside0.mk hR4; have HB4 := Aside0.mk (below_then HB1.out HB1.out.size hb4); clear hR4 hb4)))
      go_ret2
      exact ⟨v4, by rw [← HZ.out]; rfl, by rw [← HZ.out]; exact Kd.R_lower HR4.out HB1.out.size, HB4.out⟩
    · rw [if_neg hs] at hZ
      have HZ := Aside0.mk hZ
      generalize ((2 ^ m : Nat) : Int) = P at hw1 hw2 hs
      clear hp hZ
      by_cases hs1 : s < 1
      · clear hs
        go_enter Tryd.func21, Tryd.ntmps21
        go_wp2_with (go_at_call 43; go_must (refine HA.out.mono ?_; rintro e w1 ⟨rfl, hb1⟩; have HB1 := Aside0.mk hb1; clear hb1))
        go_ret2
        exact ⟨_, by rw [← HZ.out]; rfl, by rw [← HZ.out]; exact Kd.R_nil _ _ _ _ _, HB1.out⟩
      · have hs2 : ¬ s < P := by omega
        have hs3 : s ≥ P := by omega
        clear hs
        go_enter Tryd.func21, Tryd.ntmps21
        go_wp2_with (go_at_call 43; go_must (refine HA.out.mono ?_; rintro e w1 ⟨rfl, hb1⟩; have HB1 := Aside0.mk hb1; clear hb1))
        go_ret2
        exact ⟨_, by rw [← HZ.out]; rfl, by rw [← HZ.out]; exact Kd.R_nil _ _ _ _ _, HB1.out⟩
  · rw [if_neg h0] at hZ
    subst hZ
    obtain ⟨e1, e2⟩ := errne h0
    generalize askE n l = E at *
    clear hr hc h0
    go_enter Tryd.func21, Tryd.ntmps21
    go_wp2_with (go_at_call 43; go_must (refine HA.out.mono ?_; rintro e w1 ⟨rfl, hb1⟩; have HB1 := Aside0.mk hb1; clear hb1))
    go_ret2
    exact ⟨_, rfl, Kd.R_nil _ _ _ _ _, HB1.out⟩
end Go.Proofs.YtdbbcngmnpejnaaDoor.B

/- A knot where nothing can be built; a tree is built of its own triples; of three beasts a tree shows at most one triple. -/
namespace Go.Proofs.YtdbbcngmnpejnaaDoor.A
variable {l : List S44} {s : Nat}

theorem three_all : ((List.range 8).all fun a => (List.range 8).all fun b => (List.range 8).all fun c => a == b || c == a || c == b || pcN (2 ^ a ||| 2 ^ b ||| 2 ^ c) 8 == 3) = true := by decide +kernel
theorem three_pc {a b c : Nat} (ha : a < 8) (hb : b < 8) (hc : c < 8) (h1 : a ≠ b) (h2 : c ≠ a) (h3 : c ≠ b) : pcN (2 ^ a ||| 2 ^ b ||| 2 ^ c) 8 = 3 := by
  have h := List.all_eq_true.mp (List.all_eq_true.mp (List.all_eq_true.mp three_all a (List.mem_range.mpr ha)) b (List.mem_range.mpr hb)) c (List.mem_range.mpr hc)
  simp only [Bool.or_eq_true, beq_iff_eq] at h
  rcases h with ((h | h) | h) | h
  · exact absurd h h1
  · exact absurd h h2
  · exact absurd h h3
  · exact h
theorem all_pc {x : S44} (h : Tri3 x) : pcN (allN x) 8 = 3 := by
  obtain ⟨h8, h1, h2, h3⟩ := h
  obtain ⟨ha, hb, hc⟩ := tri_lt h8
  exact three_pc ha hb hc h1 h2 h3
/-- A set of two beasts has two parts. -/
theorem two_parts (hl : ∀ t ∈ l, Tri3 t) (h0 : s ≠ 0) (h8 : s < 256) (h2 : pcN s 8 ≤ 2) (h1 : s &&& (s - 1) ≠ 0) : (partsF l s).length ≠ 1 := fun e => by
  have hP := parts_spec (s := s) (fun t ht => (hl t ht).1) h8
  obtain ⟨p, hp⟩ := List.length_eq_one_iff.mp e
  have hpm : p ∈ partsF l s := by rw [hp]; exact List.mem_cons_self
  have hno : ∀ t ∈ l, ¬ SubN (allN t) s := fun t ht hs => by
    have h := pcN_mono hs 8
    rw [all_pc (hl t ht)] at h
    omega
  have hQ : ClosedJ l s (2 ^ low p) := fun t ht hs _ => absurd hs (hno t ht)
  have h3 := hP.least p hpm _ hQ (by rw [two_bit, decide_eq_true_iff])
  apply h1
  rw [one_iff s h8 h0]
  have hsp : SubN s p := fun i hi => by
    obtain ⟨q, hq, hqi⟩ := hP.all i hi
    rw [hp, List.mem_singleton] at hq
    rwa [hq] at hqi
  refine Nat.eq_of_testBit_eq fun i => ?_
  have hlow := h3 _ (hsp _ (low_bit h0 h8))
  rw [two_bit, decide_eq_true_iff] at hlow
  rw [two_bit]
  cases h : s.testBit i with
  | true =>
    have := h3 _ (hsp i h)
    rw [two_bit, decide_eq_true_iff] at this
    rw [decide_eq_true (show low s = i by omega)]
  | false =>
    rw [decide_eq_false]
    intro e
    rw [← e, low_bit h0 h8] at h; cases h
/-- Where nothing can be built a set hangs together. -/
theorem knot_of_fail (hl : ∀ t ∈ l, Tri3 t) : ∀ f s, s ≠ 0 → s < 256 → pcN s 8 < f → buildF l f s = none → ∃ q, SubN q s ∧ 2 < pcN q 8 ∧ (partsF l q).length = 1
  | 0, _, _, _, h, _ => absurd h (Nat.not_lt_zero _)
  | f + 1, s, h0, h8, hf, h => by
    have hl8 : ∀ t ∈ l, Tri8 t := fun t ht => (hl t ht).1
    rw [buildF] at h
    by_cases h1 : s &&& (s - 1) = 0
    · rw [if_pos h1] at h; cases h
    · rw [if_neg h1] at h
      by_cases h2 : (partsF l s).length = 1
      · refine ⟨s, SubN.refl s, ?_, h2⟩
        rcases Nat.lt_or_ge 2 (pcN s 8) with h3 | h3
        · exact h3
        · exact absurd h2 (two_parts hl h0 h8 h3 h1)
      · rw [if_neg h2] at h
        have hno : mapO (buildF l f) (partsF l s) = none := by
          cases hm : mapO (buildF l f) (partsF l s) with
          | none => rfl
          | some ts => rw [hm] at h; cases h
        obtain ⟨p, hp, hpn⟩ := mapO_none.mp hno
        have hP := parts_spec (s := s) hl8 h8
        have hp8 : p < 256 := lt_of_bits (k := 8) fun i hi => bit_lt (k := 8) h8 (hP.sub p hp i hi)
        have hpc := part_less hl8 h8 hp h2
        obtain ⟨q, hq, h3⟩ := knot_of_fail hl f p (hP.ne p hp) hp8 (by omega) hpn
        exact ⟨q, hq.trans (hP.sub p hp), h3⟩
/-- Where a set hangs together nothing can be built. -/
theorem fail_of_knot (hl : ∀ t ∈ l, Tri3 t) {f q : Nat} (h0 : s ≠ 0) (h8 : s < 256) (hq : SubN q s) (hq2 : 2 < pcN q 8) (hq1 : (partsF l q).length = 1) : buildF l f s = none := by
  have hl8 : ∀ t ∈ l, Tri8 t := fun t ht => (hl t ht).1
  cases h : buildF l f s with
  | none => rfl
  | some T =>
    exfalso
    obtain ⟨hg, hset⟩ := build_good hl8 f s T h0 h8 h
    have hsh := build_shows hl f s T h0 h8 h
    have hq0 : q ≠ 0 := fun e => by rw [e] at hq2; simp [pcN] at hq2
    have hq8 : q < 256 := lt_of_bits (k := 8) fun i hi => bit_lt (k := 8) h8 (hq i hi)
    have hne := shows_build hl8 T hg 9 q hq0 hq8 (by have := pcN_le q 8; omega) (by rw [hset]; exact hq) fun x hx hxq => hsh x hx (hxq.trans hq)
    apply hne
    have h1 : q &&& (q - 1) ≠ 0 := fun e => by
      have e2 := (one_iff q hq8 hq0).mp e
      have h3 : ∀ i, i < 8 → pcN (2 ^ i) 8 = 1 := by decide +kernel
      rw [e2, h3 _ (low_lt hq0 hq8)] at hq2
      omega
    rw [buildF, if_neg h1, if_pos hq1]

/-! ### a tree of its own triples -/
theorem mk3 {a b c : Nat} (ha : a < 8) (hb : b < 8) (hc : c < 8) : ∃ x : S44, x.a = min a b ∧ x.b = max a b ∧ x.c = c ∧ Tri8 x ∧ (x.f0 < x.f1 ↔ a ≠ b) := by
  refine ⟨⟨((min a b : Nat) : Int), ((max a b : Nat) : Int), (c : Int)⟩, Int.toNat_natCast _, Int.toNat_natCast _, Int.toNat_natCast _, ?_, ?_⟩
  · unfold Tri8
    dsimp only
    omega
  · dsimp only
    omega
theorem pairN_mm {x : S44} {a b : Nat} (h1 : x.a = min a b) (h2 : x.b = max a b) : pairN x = 2 ^ a ||| 2 ^ b := by
  unfold pairN
  rw [h1, h2]
  rcases Nat.le_total a b with h | h
  · rw [Nat.min_eq_left h, Nat.max_eq_right h]
  · rw [Nat.min_eq_right h, Nat.max_eq_left h, Nat.or_comm]
theorem shows3_mm {x : S44} {a b c : Nat} (h1 : x.a = min a b) (h2 : x.b = max a b) (h3 : x.c = c) (t : BT) : shows3 t x = showsB t a b c := by
  unfold shows3 showsB
  have h := pairN_mm h1 h2
  unfold pairN at h
  rw [h, h3]
/-- The parts of a family are those that its triples join. -/
theorem back_parts (hl : ∀ t ∈ l, Tri8 t) {ks : List BT} (hg : (BT.node ks).Good) (hsh : ∀ x ∈ l, SubN (allN x) (BT.node ks).set → shows3 (.node ks) x = true)
    (hall : ∀ x, Tri3 x → x.f0 < x.f1 → SubN (allN x) (BT.node ks).set → shows3 (.node ks) x = true → x ∈ l) : partsF l (BT.node ks).set = ks.map BT.set := by
  obtain ⟨h2, hks, hpw⟩ := good_node.mp hg
  have h8 := good_256 hg
  have hsub : ∀ k ∈ ks, SubN k.set (BT.node ks).set := fun k hk i hi => by rw [set_node, sets_bit]; exact ⟨k, hk, hi⟩
  refine parts_one h8 (parts_spec hl h8) ⟨fun p hp => ?_, fun p hp => ?_, fun p hp => ?_, fun p hp => ?_, ?_, fun i hi => ?_⟩
  · obtain ⟨k, hk, rfl⟩ := List.mem_map.mp hp
    exact good_ne (hks k hk)
  · obtain ⟨k, hk, rfl⟩ := List.mem_map.mp hp
    exact hsub k hk
  · obtain ⟨k, hk, rfl⟩ := List.mem_map.mp hp
    intro x hx hxs hm
    obtain ⟨j, hj1, hj2⟩ := meet_iff.mp hm
    have hsx := hsh x hx hxs
    have hsame : ∃ k' ∈ ks, k'.set.testBit x.a = true ∧ k'.set.testBit x.b = true := by
      refine Classical.byContradiction fun hno => ?_
      have := shows_out (ks := ks) (a := x.a) (b := x.b) (c := x.c) (fun k' hk' ha => by
        cases hb : k'.set.testBit x.b with
        | false => rfl
        | true => exact absurd ⟨k', hk', ha, hb⟩ hno) (hxs _ (all_c x))
      unfold shows3 at hsx
      rw [this] at hsx; cases hsx
    obtain ⟨k', hk', ha, hb⟩ := hsame
    have e : k' = k := part_one hpw hk' hk (sub_pair (x := x) ha hb j hj1) hj2
    subst e
    exact sub_pair ha hb
  · obtain ⟨k, hk, rfl⟩ := List.mem_map.mp hp
    intro Q hQ hlow i hi
    have hgk := hks k hk
    have hkl := low_bit (good_ne hgk) (good_256 hgk)
    by_cases e : i = low k.set
    · rw [e]; exact hlow
    · -- a beast of another part
      obtain ⟨k', hk', hne⟩ : ∃ k' ∈ ks, k' ≠ k := by
        match ks, h2, hk, hpw with
        | x :: y :: r, _, hk, hpw =>
          rw [List.pairwise_cons] at hpw
          have hxy := (hpw.1 y List.mem_cons_self).2
          by_cases e2 : x = k
          · refine ⟨y, by simp, fun e3 => ?_⟩
            rw [e2, e3] at hxy; omega
          · exact ⟨x, by simp, e2⟩
      obtain ⟨c, hc⟩ := good_bit (hks k' hk')
      have hck : k.set.testBit c = false := by
        cases h : k.set.testBit c with
        | false => rfl
        | true => exact absurd (part_one hpw hk' hk hc h) hne
      obtain ⟨x, hx1, hx2, hx3, hx8, hx4⟩ := mk3 (good_lt hgk _ hkl) (good_lt hgk i hi) (good_lt (hks k' hk') c hc)
      have hpn := pairN_mm hx1 hx2
      have hps : SubN (pairN x) k.set := by rw [hpn]; exact has_iff.mp (has_pair.mpr ⟨hkl, hi⟩)
      have hxs : SubN (allN x) (BT.node ks).set := sub_all (hps.trans (hsub k hk)) (by rw [hx3]; exact hsub k' hk' c hc)
      have hshx : shows3 (.node ks) x = true := by
        rw [shows3_mm hx1 hx2 hx3]
        exact shows_apart hg hk hkl hi hck
      have hcn : c ≠ low k.set ∧ c ≠ i := ⟨fun e2 => (by rw [e2, hkl] at hck; cases hck), fun e2 => (by rw [e2, hi] at hck; cases hck)⟩
      have hT : Tri3 x := ⟨hx8, by rw [hx1, hx2]; omega, by rw [hx3, hx1]; omega, by rw [hx3, hx2]; omega⟩
      have hxl := hall x hT (hx4.mpr (fun e2 => e e2.symm)) hxs hshx
      have := hQ x hxl hxs (meet_iff.mpr ⟨low k.set, by rw [hpn, pair_bit]; simp, hlow⟩)
      exact this i (by rw [hpn, pair_bit]; simp)
  · rw [List.pairwise_map]; exact hpw
  · rw [set_node, sets_bit] at hi
    obtain ⟨k, hk, hki⟩ := hi
    exact ⟨k.set, List.mem_map.mpr ⟨k, hk, rfl⟩, hki⟩
/-- A tree is built of its own triples. -/
theorem build_back (hl : ∀ t ∈ l, Tri8 t) (T : BT) : T.Good → (∀ x ∈ l, SubN (allN x) T.set → shows3 T x = true) → (∀ x, Tri3 x → x.f0 < x.f1 → SubN (allN x) T.set → shows3 T x = true → x ∈ l) → ∀ f, pcN T.set 8 < f → buildF l f T.set = some T := by
  refine BT.ind (P := fun T => T.Good → (∀ x ∈ l, SubN (allN x) T.set → shows3 T x = true) → (∀ x, Tri3 x → x.f0 < x.f1 → SubN (allN x) T.set → shows3 T x = true → x ∈ l) → ∀ f, pcN T.set 8 < f → buildF l f T.set = some T) (fun i hi _ _ f hf => ?_) (fun ks ih hg hsh hall f hf => ?_) T
  · obtain ⟨f, rfl⟩ : ∃ f', f = f' + 1 := ⟨f - 1, by omega⟩
    rw [BT.Good] at hi
    have hlow : low (2 ^ i) = i := low_two i hi
    rw [set_leaf, buildF, if_pos ((one_iff _ (two_256 hi) (Nat.pos_iff_ne_zero.mp (Nat.two_pow_pos i))).mpr (by rw [hlow])), hlow]
  · obtain ⟨f, rfl⟩ : ∃ f', f = f' + 1 := ⟨f - 1, by omega⟩
    obtain ⟨h2, hks, hpw⟩ := good_node.mp hg
    have h8 := good_256 hg
    have hparts := back_parts hl hg hsh hall
    have hlen : (partsF l (BT.node ks).set).length ≠ 1 := by rw [hparts, List.length_map]; omega
    have hsub : ∀ k ∈ ks, SubN k.set (BT.node ks).set := fun k hk i hi => by rw [set_node, sets_bit]; exact ⟨k, hk, hi⟩
    have hn1 : (BT.node ks).set &&& ((BT.node ks).set - 1) ≠ 0 := fun e => by
      have e2 := (one_iff _ h8 (good_ne hg)).mp e
      have hin : ∀ k ∈ ks, k.set.testBit (low (BT.node ks).set) = true := fun k hk => by
        have hb := low_bit (good_ne (hks k hk)) (good_256 (hks k hk))
        have := hsub k hk _ hb
        rw [e2, two_bit, decide_eq_true_iff] at this
        rw [this]; exact hb
      match ks, h2, hpw, hin with
      | x :: y :: r, _, hpw, hin =>
        rw [List.pairwise_cons] at hpw
        have := disj_iff.mp (hpw.1 y List.mem_cons_self).1 _ (hin x List.mem_cons_self)
        rw [hin y (by simp)] at this
        cases this
    rw [buildF, if_neg hn1, if_neg hlen, hparts]
    have : mapO (buildF l f) (ks.map BT.set) = some ks := by
      rw [mapO_some, List.map_map]
      refine List.map_congr_left fun k hk => ?_
      have hpc := part_less hl h8 (p := k.set) (by rw [hparts]; exact List.mem_map.mpr ⟨k, hk, rfl⟩) hlen
      refine ih k hk (hks k hk) (fun x hx hxk => ?_) (fun x hT hlt hxk hx => ?_) f (by omega)
      · have h := hsh x hx (hxk.trans (hsub k hk))
        unfold shows3 at h ⊢
        rwa [shows_in hg hk (hxk _ (pair_sub x _ (pair_a x))) (hxk _ (pair_sub x _ (pair_b x)))] at h
      · refine hall x hT hlt (hxk.trans (hsub k hk)) ?_
        unfold shows3 at hx ⊢
        rwa [shows_in hg hk (hxk _ (pair_sub x _ (pair_a x))) (hxk _ (pair_sub x _ (pair_b x)))]
    rw [this]
    rfl
/-- Of three beasts a tree shows at most one triple. -/
theorem shows_once (T : BT) : T.Good → ∀ a b c, T.set.testBit a = true → T.set.testBit b = true → T.set.testBit c = true → a ≠ b → c ≠ a → c ≠ b → showsB T a b c = true → showsB T a c b = false := by
  refine BT.ind (P := fun T => T.Good → ∀ a b c, T.set.testBit a = true → T.set.testBit b = true → T.set.testBit c = true → a ≠ b → c ≠ a → c ≠ b → showsB T a b c = true → showsB T a c b = false) (fun i hi a b c ha hb _ hab _ _ _ => ?_) (fun ks ih hg a b c ha hb hc hab hca hcb h => ?_) T
  · rw [set_leaf, two_bit, decide_eq_true_iff] at ha hb
    exact absurd (ha.symm.trans hb) hab
  · obtain ⟨_, hks, hpw⟩ := good_node.mp hg
    by_cases hsame : ∃ k ∈ ks, k.set.testBit a = true ∧ k.set.testBit b = true
    · obtain ⟨k, hk, hka, hkb⟩ := hsame
      cases hkc : k.set.testBit c with
      | true =>
        rw [shows_in hg hk hka hkb] at h
        rw [shows_in hg hk hka hkc]
        exact ih k hk (hks k hk) a b c hka hkb hkc hab hca hcb h
      | false =>
        refine shows_out (fun k' hk' ha' => ?_) hb
        have e : k' = k := part_one hpw hk' hk ha' hka
        rw [e]; exact hkc
    · have := shows_out (ks := ks) (a := a) (b := b) (c := c) (fun k hk hka => by
        cases hkb : k.set.testBit b with
        | false => rfl
        | true => exact absurd ⟨k, hk, hka, hkb⟩ hsame) hc
      rw [this] at h; cases h
end Go.Proofs.YtdbbcngmnpejnaaDoor.A

/- What is read is a tree's text, and a good tree's text is read as the tree, plain. -/
namespace Go.Proofs.YtdbbcngmnpejnaaDoor.A
open Go

theorem join_one (sep x : List UInt8) : Lib.join [x] sep = x := by simp [Lib.join]
theorem join_cons (sep x y : List UInt8) (ys : List (List UInt8)) : Lib.join (x :: y :: ys) sep = x ++ sep ++ Lib.join (y :: ys) sep := by simp [Lib.join, List.intercalate_cons_cons]
theorem u8_eq {c : UInt8} {n : Nat} (h : c.toNat = n) : c = UInt8.ofNat n := by rw [← h]; exact (UInt8.ofNat_toNat).symm
theorem text_leaf (i : Nat) : (BT.leaf i).text = [UInt8.ofNat (48 + i)] := by rw [BT.text]
theorem text_node (ks : List BT) : (BT.node ks).text = 40 :: (Lib.join (ks.map BT.text) [44] ++ [41]) := by rw [BT.text, texts_map]
/-- What is read is the tree's text. -/
theorem read_sound : ∀ f, (∀ L t L', readP f L = some (t, L') → L = t.text ++ L') ∧ ∀ l all L t L', loopP f l all L = some (t, L') → ∃ r, r ≠ [] ∧ t = .node (l ++ r) ∧ L = Lib.join (r.map BT.text) [44] ++ 41 :: L'
  | 0 => ⟨fun L t L' h => (by rw [readP] at h; cases h), fun l all L t L' h => (by rw [loopP] at h; cases h)⟩
  | f + 1 => by
    obtain ⟨ih1, ih2⟩ := read_sound f
    refine ⟨fun L t L' h => ?_, fun l all L t L' h => ?_⟩
    · cases L with
      | nil => rw [readP] at h; cases h
      | cons c L =>
        rw [readP] at h
        split at h
        · rename_i hc
          cases h
          rw [text_leaf, show 48 + (c.toNat - 48) = c.toNat by omega, UInt8.ofNat_toNat]
          rfl
        · split at h
          · rename_i hc
            obtain ⟨r, _, ht, hL⟩ := ih2 _ _ _ _ _ h
            rw [List.nil_append] at ht
            rw [ht, text_node, u8_eq hc, hL]
            simp
          · cases h
    · rw [loopP] at h
      cases hp : readP f L with
      | none => rw [hp] at h; cases h
      | some q =>
        obtain ⟨u, L1⟩ := q
        rw [hp] at h
        dsimp only at h
        have hL := ih1 _ _ _ hp
        split at h
        · cases L1 with
          | nil => cases h
          | cons c L2 =>
            dsimp only at h
            split at h
            · rename_i hc
              split at h
              · cases h
                exact ⟨[u], by simp, rfl, by rw [hL, u8_eq hc, List.map_cons, List.map_nil, join_one]; rfl⟩
              · cases h
            · split at h
              · rename_i hc
                obtain ⟨r, hr, ht, hL2⟩ := ih2 _ _ _ _ _ h
                refine ⟨u :: r, by simp, by rw [ht, List.append_assoc]; rfl, ?_⟩
                cases r with
                | nil => exact absurd rfl hr
                | cons v r =>
                  rw [hL, hL2, u8_eq hc]
                  simp only [List.map_cons]
                  rw [join_cons, List.append_assoc, List.append_assoc]
                  rfl
              · cases h
        · cases h
/-- A good tree's text is read as the tree. -/
theorem read_complete (t : BT) : t.Good → ∀ f L, 2 * t.text.length < f → readP f (t.text ++ L) = some (t, L) := by
  refine BT.ind (P := fun t => t.Good → ∀ f L, 2 * t.text.length < f → readP f (t.text ++ L) = some (t, L)) (fun i hi f L hf => ?_) (fun ks ih hg f L hf => ?_) t
  · obtain ⟨f, rfl⟩ : ∃ f', f = f' + 1 := ⟨f - 1, by omega⟩
    rw [BT.Good] at hi
    rw [text_leaf, List.singleton_append, readP]
    have e : (UInt8.ofNat (48 + i)).toNat = 48 + i := UInt8.toNat_ofNat_of_lt' (by show 48 + i < 256; omega)
    rw [e, if_pos (by omega), show 48 + i - 48 = i by omega]
  · obtain ⟨f, rfl⟩ : ∃ f', f = f' + 1 := ⟨f - 1, by omega⟩
    obtain ⟨h2, hks, hpw⟩ := good_node.mp hg
    rw [text_node] at hf ⊢
    have hloop : ∀ (r l : List BT) (f : Nat), ks = l ++ r → r ≠ [] → 2 * (Lib.join (r.map BT.text) [44]).length + 1 < f → loopP f l (BT.sets l) (Lib.join (r.map BT.text) [44] ++ 41 :: L) = some (.node ks, L) := by
      intro r
      induction r with
      | nil => intro l f _ h; exact absurd rfl h
      | cons u r ihr =>
        intro l f hk _ hf
        obtain ⟨f, rfl⟩ : ∃ f', f = f' + 1 := ⟨f - 1, by omega⟩
        have hu : u ∈ ks := by rw [hk]; simp
        have hnext : nextOk l (BT.sets l) u = true := by
          rw [hk] at hpw
          have h3 := (List.pairwise_append.mp hpw).2.2
          unfold nextOk
          rw [Bool.and_eq_true, decide_eq_true_iff, Bool.or_eq_true, decide_eq_true_iff]
          refine ⟨?_, ?_⟩
          · refine disj_iff.mpr fun i hi => ?_
            cases e : (BT.sets l).testBit i with
            | false => rfl
            | true =>
              obtain ⟨k, hkl, hki⟩ := sets_bit.mp e
              rw [disj_iff.mp (h3 k hkl u List.mem_cons_self).1 i hki] at hi; cases hi
          · by_cases e : l = []
            · left; rw [e]; rfl
            · right
              rw [List.getLast?_eq_some_getLast e, Option.getD_some]
              exact (h3 _ (List.getLast_mem e) u List.mem_cons_self).2
        cases r with
        | nil =>
          rw [List.map_cons, List.map_nil, join_one] at hf ⊢
          rw [loopP, ih u hu (hks u hu) f (41 :: L) (by omega)]
          dsimp only
          have h41 : (41 : UInt8).toNat = 41 := rfl
          rw [if_pos hnext, if_pos h41, if_pos (by rw [← hk]; omega), ← hk]
        | cons v r =>
          rw [List.map_cons, List.map_cons, join_cons] at hf ⊢
          rw [List.length_append, List.length_append, List.length_singleton] at hf
          rw [loopP, List.append_assoc, List.append_assoc, ih u hu (hks u hu) f _ (by omega)]
          dsimp only [List.singleton_append]
          have h44 : ¬ ((44 : UInt8).toNat = 41) := by decide
          have h44' : (44 : UInt8).toNat = 44 := rfl
          rw [if_pos hnext, if_neg h44, if_pos h44']
          have hs : BT.sets l ||| u.set = BT.sets (l ++ [u]) := by rw [sets_append, BT.sets, BT.sets, Nat.or_zero]
          rw [hs]
          have := ihr (l ++ [u]) f (by rw [hk, List.append_assoc]; rfl) (by simp) (by rw [List.map_cons]; omega)
          rw [List.map_cons] at this
          exact this
    rw [List.cons_append, readP]
    have h40 : ¬ (48 ≤ (40 : UInt8).toNat ∧ (40 : UInt8).toNat ≤ 55) := by decide
    have h40' : (40 : UInt8).toNat = 40 := rfl
    rw [if_neg h40, if_pos h40', List.append_assoc]
    rw [List.length_cons, List.length_append, List.length_singleton] at hf
    have hne : ks ≠ [] := fun e => by rw [e] at h2; simp at h2
    have := hloop ks [] f rfl hne (by omega)
    rw [BT.sets] at this
    exact this
end Go.Proofs.YtdbbcngmnpejnaaDoor.A

/- What Build, Knot, Shows and Joined answer of one list of triples, plain: Aho's theorem, as the laws ask it. -/
namespace Go.Proofs.YtdbbcngmnpejnaaDoor.B
open Go.Proofs.YtdbbcngmnpejnaaDoor.A
open Go.RowKit Go.Proofs.YtdbbcngmnpejnaaDoorW.PrintWords Go.Proofs.YtdbbcngmnpejnaaDoorW.PrintMore

theorem full_ne {m : Nat} (h : 1 ≤ m) : 2 ^ m - 1 ≠ 0 := by
  obtain ⟨k, rfl⟩ : ∃ k, m = k + 1 := ⟨m - 1, by omega⟩
  have := Nat.two_pow_pos k
  rw [Nat.pow_succ]; omega
theorem full_256 {m : Nat} (h : m ≤ 8) : 2 ^ m - 1 < 256 := by
  have := pow_256 h
  have := Nat.two_pow_pos m
  omega
theorem full_bit (m i : Nat) : (2 ^ m - 1).testBit i = decide (i < m) := Nat.testBit_two_pow_sub_one m i
theorem okTri_3 {n : Int} {t : S44} (hn : n ≤ 8) (h : okTri n t = true) : Tri3 t := by
  have h1 := okTri_8 hn h
  have := okTri_parts h
  refine ⟨h1, ?_⟩
  unfold S44.a S44.b S44.c
  omega
theorem okTri_sub {m : Nat} {t : S44} (h : okTri m t = true) : SubN (allN t) (2 ^ m - 1) := fun i hi => by
  have h1 := okTri_parts h
  rw [full_bit, decide_eq_true_iff]
  unfold allN pairN at hi
  rw [Nat.testBit_or, pair_bit, two_bit, Bool.or_eq_true, Bool.or_eq_true, decide_eq_true_iff, decide_eq_true_iff, decide_eq_true_iff] at hi
  unfold S44.a S44.b S44.c at hi
  omega
theorem sub_full {k m : Nat} (h : k < 2 ^ m) : SubN k (2 ^ m - 1) := fun i hi => by
  rw [full_bit, decide_eq_true_iff]
  exact bit_lt h hi
theorem lt_full {k m : Nat} (h : SubN k (2 ^ m - 1)) : k < 2 ^ m := lt_of_bits fun i hi => by
  have := h i hi
  rw [full_bit, decide_eq_true_iff] at this
  exact this
/-- A tree's text is parsed as the tree. -/
theorem parse_text {m : Nat} {t : BT} (hg : t.Good) (hs : t.set = 2 ^ m - 1) : parseF m t.text = some t := by
  unfold parseF
  have h := read_complete t hg (2 * t.text.length + 1) [] (by omega)
  rw [List.append_nil] at h
  rw [h]
  dsimp only
  rw [if_pos ⟨rfl, hs⟩]
theorem parseE_text {m : Nat} {t : BT} (h1 : 1 ≤ m) (h8 : m ≤ 8) (hg : t.Good) (hs : t.set = 2 ^ m - 1) : parseE m t.text = some t := by
  unfold parseE
  rw [if_pos (by omega), Int.toNat_natCast]
  exact parse_text hg hs
theorem knotF_some (l : List S44) : ∀ d s k, knotF l d s = some k → (s ≤ k ∧ k < s + d) ∧ knotB l k = true
  | 0, s, k, h => by rw [knotF] at h; cases h
  | d + 1, s, k, h => by
    rw [knotF] at h
    split at h
    · rename_i hb; cases h; exact ⟨by omega, hb⟩
    · obtain ⟨h1, h2⟩ := knotF_some l d (s + 1) k h
      exact ⟨by omega, h2⟩
theorem knotF_none (l : List S44) : ∀ d s, knotF l d s = none → ∀ k, s ≤ k → k < s + d → knotB l k = false
  | 0, s, _, k, h1, h2 => by omega
  | d + 1, s, h, k, h1, h2 => by
    rw [knotF] at h
    split at h
    · cases h
    · rename_i hb
      by_cases e : k = s
      · subst e; exact Bool.eq_false_iff.mpr hb
      · exact knotF_none l d (s + 1) h k (by omega) (by omega)
theorem pc_two : (List.range 256).all (fun k => !decide (2 < pcN k 8) || decide (k &&& (k - 1) ≠ 0)) = true := by decide +kernel
theorem pc_many {k : Nat} (h8 : k < 256) (h : 2 < pcN k 8) : k &&& (k - 1) ≠ 0 := by
  have := List.all_eq_true.1 pc_two k (List.mem_range.2 h8)
  rw [decide_eq_true h, Bool.not_true, Bool.false_or, decide_eq_true_iff] at this
  exact this
theorem one_part {l : List S44} (hl : ∀ t ∈ l, Tri8 t) {k : Nat} (h8 : k < 256) (h : (partsF l k).length = 1) : joinedF l k = [(k : Int)] := by
  have hP := parts_spec (s := k) hl h8
  obtain ⟨p, hp⟩ := List.length_eq_one_iff.mp h
  have he : p = k := Nat.eq_of_testBit_eq fun i => by
    cases e : k.testBit i with
    | true =>
      obtain ⟨q, hq, hqi⟩ := hP.all i e
      rw [hp, List.mem_singleton] at hq
      rw [← hq]; exact hqi
    | false =>
      cases e2 : p.testBit i with
      | false => rfl
      | true =>
        have := hP.sub p (by rw [hp]; exact List.mem_singleton.mpr rfl) i e2
        rw [e] at this; cases this
  unfold joinedF
  unfold partsF at hp
  rw [hp, he]
  exact List.mergeSort_singleton _
/-- Of triples of n beasts: a tree is built, it shows them, and there is no knot; or none is built, there is a knot, and no tree shows them. -/
theorem aho_case {m : Nat} {l : List S44} (h : askE m l = 0) :
    (∃ t, buildF l 9 (2 ^ m - 1) = some t ∧ t.Good ∧ t.set = 2 ^ m - 1 ∧ l.all (showsT t) = true ∧ parseE m t.text = some t ∧ knotF l (2 ^ m) 0 = none) ∨
    (buildF l 9 (2 ^ m - 1) = none ∧ (∃ k, knotF l (2 ^ m) 0 = some k ∧ 1 ≤ k ∧ k < 2 ^ m ∧ k &&& (k - 1) ≠ 0 ∧ joinedF l k = [(k : Int)]) ∧ ∀ t : BT, t.Good → t.set = 2 ^ m - 1 → l.all (showsT t) = false) := by
  obtain ⟨hn, hlen, hok⟩ := askE_zero h
  have h8 : m ≤ 8 := by omega
  have h3 : ∀ t ∈ l, Tri3 t := fun t ht => okTri_3 (by omega) (hok t ht)
  have hl8 : ∀ t ∈ l, Tri8 t := fun t ht => (h3 t ht).1
  have hs0 := full_ne (m := m) (by omega)
  have hs8 := full_256 h8
  have hpc : pcN (2 ^ m - 1) 8 < 9 := by have := pcN_le (2 ^ m - 1) 8; omega
  have hp2 := pow_256 h8
  cases hb : buildF l 9 (2 ^ m - 1) with
  | some t =>
    left
    obtain ⟨hg, hst⟩ := build_good hl8 9 _ t hs0 hs8 hb
    refine ⟨t, rfl, hg, hst, List.all_eq_true.mpr fun x hx => build_shows h3 9 _ t hs0 hs8 hb x hx (okTri_sub (hok x hx)), parseE_text (by omega) h8 hg hst, ?_⟩
    cases hk : knotF l (2 ^ m) 0 with
    | none => rfl
    | some k =>
      obtain ⟨hk1, hk2⟩ := knotF_some l _ _ _ hk
      unfold knotB at hk2
      rw [Bool.and_eq_true, decide_eq_true_iff, decide_eq_true_iff] at hk2
      rw [fail_of_knot h3 hs0 hs8 (sub_full (by omega)) hk2.1 hk2.2] at hb
      cases hb
  | none =>
    right
    refine ⟨rfl, ?_, fun t hg hst => ?_⟩
    · obtain ⟨q, hq1, hq2, hq3⟩ := knot_of_fail h3 9 _ hs0 hs8 hpc hb
      have hqk : knotB l q = true := by
        unfold knotB
        rw [decide_eq_true hq2, decide_eq_true hq3]; rfl
      cases hk : knotF l (2 ^ m) 0 with
      | none =>
        have := knotF_none l _ _ hk q (Nat.zero_le _) (by have := lt_full hq1; omega)
        rw [hqk] at this; cases this
      | some k =>
        obtain ⟨hk1, hk2⟩ := knotF_some l _ _ _ hk
        unfold knotB at hk2
        rw [Bool.and_eq_true, decide_eq_true_iff, decide_eq_true_iff] at hk2
        have hk8 : k < 256 := by omega
        refine ⟨k, rfl, ?_, by omega, pc_many hk8 hk2.1, one_part hl8 hk8 hk2.2⟩
        rcases Nat.eq_zero_or_pos k with e | e
        · subst e
          exact absurd hk2.1 (by decide +kernel)
        · exact e
    · cases e : l.all (showsT t) with
      | false => rfl
      | true =>
        have he := List.all_eq_true.mp e
        exact absurd hb (shows_build hl8 t hg 9 (2 ^ m - 1) hs0 hs8 hpc (by rw [hst]; exact SubN.refl _) fun x hx _ => he x hx)
end Go.Proofs.YtdbbcngmnpejnaaDoor.B

/- Nodes of trees as they lie in memory, as the kit's print writes it. -/
namespace Go.Proofs.YtdbbcngmnpejnaaDoor.A
open Go.RowKit Go.Proofs.YtdbbcngmnpejnaaDoorW.PrintWords Go.Proofs.YtdbbcngmnpejnaaDoorW.PrintLast Go.Proofs.YtdbbcngmnpejnaaDoorW.PrintMore
section
attribute [local go_sem] max2_int min2_int max_two min_two max_three min_three max_four min_four   -- for this text's walks alone
set_option linter.unusedVariables false
set_option linter.unusedSimpArgs false
/-! #### struct type 85, nested in itself -/
structure S85 where
  f0 : Int
  f1 : (List S85)
def z85 : S85 := ⟨(0 : Int), ([] : List S85)⟩
def F85 (d : Kd S85) : Kd S85 := Kd.iso (Kd.pair (Kd.int .i64) (Kd.slice 85 d)) (fun x : S85 => (x.f0, x.f1))
theorem mono85 : Kd.Mono F85 := Kd.mono_iso _ (Kd.mono_pair (Kd.mono_const _) (Kd.mono_slice 85 Kd.mono_id))
theorem sub85 : Kd.Sub F85 [85] := Kd.sub_iso _ (Kd.sub_pair (Kd.sub_const _ (by decide)) (Kd.sub_slice 85 (by decide) Kd.sub_id))
theorem sz85 : ∀ n, (Kd.upto F85 2 [85] n).sz = 2 := Kd.upto_sz (fun _ => rfl)
def k85 : Kd S85 := Kd.fix F85 2 [85] sz85 (Kd.upto_E sub85)
theorem k85_open {w : World} {x : S85} {cs : List Value} (h : k85.K w x cs) : ∃ A1 c1, cs = [.int .i64 x.f0, .slice A1 x.f1.length c1] ∧ x.f1.length ≤ c1 ∧ k85.C w A1 x.f1.length x.f1 := by
  obtain ⟨n, h⟩ := h
  cases n with
  | zero => exact h.elim
  | succ n =>
    obtain ⟨_, _, rfl, rfl, ⟨A1, c1, rfl, l1, g1⟩⟩ := h
    exact ⟨A1, c1, rfl, l1, Kd.fix_C g1⟩
theorem k85_openM {w : World} {base : Nat} {ok : Nat → Prop} {x : S85} {cs : List Value} (h : k85.M w base ok x cs) : ∃ v1, cs = [.int .i64 x.f0, v1] ∧ k85.R 85 w base ok v1 x.f1 := by
  obtain ⟨n, h⟩ := h
  cases n with
  | zero => exact h.elim
  | succ n =>
    obtain ⟨_, _, rfl, rfl, ⟨v1, rfl, g1⟩⟩ := h
    exact ⟨v1, rfl, Kd.fix_R g1⟩
theorem k85_mk (w : World) (x : S85) {A1 : Option Addr} {c1 : Nat} (l1 : x.f1.length ≤ c1) (g1 : k85.C w A1 x.f1.length x.f1) : k85.K w x [.int .i64 x.f0, .slice A1 x.f1.length c1] := by
  obtain ⟨n1, q1⟩ := Kd.fix_C_back mono85 g1
  have r1 := Kd.upto_C_le mono85 sz85 (show n1 ≤ n1 by omega) q1
  exact ⟨n1 + 1, ⟨[.int .i64 x.f0], [.slice A1 x.f1.length c1], rfl, rfl, ⟨A1, c1, rfl, l1, r1⟩⟩⟩
theorem k85_mkM (w : World) (base : Nat) (ok : Nat → Prop) (x : S85) {v1 : Value} (g1 : k85.R 85 w base ok v1 x.f1) : k85.M w base ok x [.int .i64 x.f0, v1] := by
  obtain ⟨n1, q1⟩ := Kd.fix_R_back mono85 g1
  have r1 := Kd.upto_R_le mono85 sz85 (show n1 ≤ n1 by omega) q1
  exact ⟨n1 + 1, ⟨[.int .i64 x.f0], [v1], rfl, rfl, ⟨v1, rfl, r1⟩⟩⟩
def rd_T85 (xs : List S85) (i : Int) : S85 := xs.getD i.toNat z85
theorem at_T85 {w : World} {A : Option Addr} {n : Nat} {xs : List S85} (h : Kd.C k85 w A n xs) (i : Int) (h0 : 0 ≤ i) (h1 : i < n) : ∃ ad A1 c1, A = some ad ∧ w.cell? (ad.add (i.toNat * 2)) = some (.int .i64 (rd_T85 xs i).f0) ∧ w.cell? ⟨(ad.add (i.toNat * 2)).block, (ad.add (i.toNat * 2)).off + 1, none⟩ = some (.slice A1 (rd_T85 xs i).f1.length c1) ∧ (rd_T85 xs i).f1.length ≤ c1 ∧ k85.C w A1 (rd_T85 xs i).f1.length (rd_T85 xs i).f1 := by
  obtain ⟨ad, c, e, _, hK, hc0⟩ := Kd.C_get h z85 i h0 h1
  have hc : ∀ j u, c[j]? = some u → w.cell? (ad.add (i.toNat * 2 + j)) = some u := hc0
  obtain ⟨A1, c1, rfl, l1, g1⟩ := k85_open hK
  exact ⟨ad, A1, c1, e, hc 0 _ rfl, by rw [← add_field _ _ 1 (by omega)]; exact hc 1 _ rfl, l1, g1⟩

theorem eqA44 (d : Nat) (w : World) (x0 y0 : Int) (x1 y1 : Int) (x2 y2 : Int) :
    (Op.equalIn (d + 2) 44 (.agg #[.int .i64 x0, .int .i64 x1, .int .i64 x2]) (.agg #[.int .i64 y0, .int .i64 y1, .int .i64 y2])).run Tryd.prog w = .ok (x0 == y0 && (x1 == y1 && (x2 == y2))) w := by
  refine eqA_of Tryd.underlying44 (by kernel_rfl) ?_
  refine eqf_cons (by rfl) (by go_simp; rfl) (by go_simp; rfl) (by go_simp) ?_
  refine eqf_cons (by rfl) (by go_simp; rfl) (by go_simp; rfl) (by go_simp) ?_
  exact eqf_last (by rfl) (by go_simp; rfl) (by go_simp; rfl) (by go_simp)
end
end Go.Proofs.YtdbbcngmnpejnaaDoor.A
namespace Go.Proofs.YtdbbcngmnpejnaaDoor.B
open Go.Proofs.YtdbbcngmnpejnaaDoor.A
theorem info44 : (Tryd.prog.info? 44).map (fun i => (i.zero, i.size, i.bytes)) = some (some (.agg #[(.int .i64 0), (.int .i64 0), (.int .i64 0)]), 3, 24) := by kernel_rfl
theorem info5 : (Tryd.prog.info? 5).map (fun i => (i.zero, i.size, i.bytes)) = some (some (.int .u8 0), 1, 1) := by kernel_rfl
theorem info85 : (Tryd.prog.info? 85).map (fun i => (i.zero, i.size, i.bytes)) = some (some (.agg #[(.int .i64 0), (.slice none 0 0)]), 2, 32) := by kernel_rfl
theorem info9 : (Tryd.prog.info? 9).map (fun i => (i.zero, i.size, i.bytes)) = some (some (.string ⟨#[]⟩), 1, 16) := by kernel_rfl
end Go.Proofs.YtdbbcngmnpejnaaDoor.B

/- The law package's small functions, as the kit's print writes them. -/
namespace Go.Proofs.YtdbbcngmnpejnaaDoor.B
open Go.Proofs.YtdbbcngmnpejnaaDoor.A
open Go.RowKit Go.Proofs.YtdbbcngmnpejnaaDoorW.PrintWords Go.Proofs.YtdbbcngmnpejnaaDoorW.PrintLast Go.Proofs.YtdbbcngmnpejnaaDoorW.PrintMore
section
attribute [local go_sem] max2_int min2_int max_two min_two max_three min_three max_four min_four   -- for this text's walks alone
set_option linter.unusedVariables false
set_option linter.unusedSimpArgs false
attribute [local go_sem high] eqA44
/-! ### drovewaylaw05_few: function 16 -/
def drovewaylaw05_few.f (l0 : List (S44)) (a1 : ByteArray) : Option (Bool) := if (l0.length : Int) ≤ 100 then (some (decide ((a1.size : Int) ≤ 100))) else (some false)
set_option maxHeartbeats 8000000 in
set_option maxRecDepth 100000 in
theorem drovewaylaw05_few.calls (A0 : Option Addr) (c0 : Nat) (l0 : List (S44)) (a1 : ByteArray) (r : Bool) (w : World) (hr0 : Kd.C k44 w A0 l0.length l0) (hc0 : l0.length ≤ c0) (h : drovewaylaw05_few.f l0 a1 = some r) :
    Calls Tryd.prog 16 #[.slice A0 l0.length c0, .string a1] w fun e w' => e = .returned (.bool r) ∧ Drawn0 w w' := by
  have HR0 := Aside0.mk hr0
  have HC0 := Aside0.mk hc0
  clear hr0 hc0
  have H : (if (l0.length : Int) ≤ 100 then (some (decide ((a1.size : Int) ≤ 100))) else (some false)) = some r := h
  clear h
  by_cases c3 : (l0.length : Int) ≤ 100
  · rw [if_pos c3] at H
    have c3b0 : decide ((l0.length : Int) ≤ 100) = true := decide_eq_true c3
    have c3b1 : decide (l0.length ≤ 100) = true := decide_eq_true (by omega)
    clear c3
    obtain rfl := Option.some.inj H
    go_enter Tryd.func16, Tryd.ntmps16
    go_wp2
    go_ret
    exact ⟨by first | rfl | (simp; done) | (simp [*]; done), by repeat (first | exact Drawn0.refl _ | apply Drawn0.step)⟩
  · rw [if_neg c3] at H
    have c3b0 : decide ((l0.length : Int) ≤ 100) = false := decide_eq_false c3
    have c3b1 : decide (l0.length ≤ 100) = false := decide_eq_false (by omega)
    clear c3
    obtain rfl := Option.some.inj H
    go_enter Tryd.func16, Tryd.ntmps16
    go_wp2
    go_ret
    exact ⟨by first | rfl | (simp; done) | (simp [*]; done), by repeat (first | exact Drawn0.refl _ | apply Drawn0.step)⟩

/-! ### drovewaylaw05_same: function 23 -/
def drovewaylaw05_same.l0 : Nat → List (S44) → List (S44) → Int → Option (Bool)
  | 0, _, _, _ => none
  | k + 1, x0, x1, x5 => if x5 < (x0.length : Int) then (if 0 ≤ x5 then (if x5 < (x1.length : Int) then (if (!(((rd_T44 x0 x5).f0) == ((rd_T44 x1 x5).f0)) || (!(((rd_T44 x0 x5).f1) == ((rd_T44 x1 x5).f1)) || (!(((rd_T44 x0 x5).f2) == ((rd_T44 x1 x5).f2))))) = true then (some false) else (drovewaylaw05_same.l0 k x0 x1 (wrap64 (x5 + 1)))) else (none)) else (none)) else (some true)
def drovewaylaw05_same.f (k : Nat) (l0 : List (S44)) (l1 : List (S44)) : Option (Bool) := if (l0.length : Int) = (l1.length : Int) then (drovewaylaw05_same.l0 k l0 l1 0) else (some false)
theorem drovewaylaw05_same.mono_l : ∀ k, (∀ y0 y1 y2, LeO (drovewaylaw05_same.l0 k y0 y1 y2) (drovewaylaw05_same.l0 (k + 1) y0 y1 y2))
  | 0 => fun _ _ _ r h => by simp [drovewaylaw05_same.l0] at h
  | k + 1 => by
    have ih0 := drovewaylaw05_same.mono_l k
    · intro y0 y1 y2
      unfold drovewaylaw05_same.l0
      repeat' first
      | (with_reducible exact ih0 _ _ _)
      | (with_reducible exact LeO.refl _)
      | (with_reducible exact LeO.none _)
      | (with_reducible refine LeO.ite ?_ ?_)
      | (with_reducible refine LeO.bind ?_ (fun _ => ?_))
      | exact ih0 _ _ _
      | exact LeO.none _
      | refine LeO.ite ?_ ?_
      | refine LeO.bind ?_ (fun _ => ?_)
theorem drovewaylaw05_same.mono : ∀ a0 a1 k, LeO (drovewaylaw05_same.f k a0 a1) (drovewaylaw05_same.f (k + 1) a0 a1) := by
  intro a0 a1 k
  have ih0 := drovewaylaw05_same.mono_l k
  unfold drovewaylaw05_same.f
  repeat' first
      | (with_reducible exact ih0 _ _ _)
      | (with_reducible exact LeO.refl _)
      | (with_reducible exact LeO.none _)
      | (with_reducible refine LeO.ite ?_ ?_)
      | (with_reducible refine LeO.bind ?_ (fun _ => ?_))
      | exact ih0 _ _ _
      | exact LeO.none _
      | refine LeO.ite ?_ ?_
      | refine LeO.bind ?_ (fun _ => ?_)
set_option maxHeartbeats 8000000 in
set_option maxRecDepth 100000 in
theorem drovewaylaw05_same.calls (k : Nat) (A0 : Option Addr) (c0 : Nat) (l0 : List (S44)) (A1 : Option Addr) (c1 : Nat) (l1 : List (S44)) (r : Bool) (w : World) (hr0 : Kd.C k44 w A0 l0.length l0) (hc0 : l0.length ≤ c0) (hr1 : Kd.C k44 w A1 l1.length l1) (hc1 : l1.length ≤ c1) (h : drovewaylaw05_same.f k l0 l1 = some r) :
    Calls Tryd.prog 23 #[.slice A0 l0.length c0, .slice A1 l1.length c1] w fun e w' => e = .returned (.bool r) ∧ Drawn0 w w' := by
  have hu44 := Tryd.underlying44
  have HR0 := Aside0.mk hr0
  have HC0 := Aside0.mk hc0
  clear hr0 hc0
  have HR1 := Aside0.mk hr1
  have HC1 := Aside0.mk hc1
  clear hr1 hc1
  have H : (if (l0.length : Int) = (l1.length : Int) then (drovewaylaw05_same.l0 k l0 l1 0) else (some false)) = some r := h
  clear h
  by_cases c3 : (l0.length : Int) = (l1.length : Int)
  · rw [if_pos c3] at H
    have c3b0 : ((l0.length : Int) == (l1.length : Int)) = true := beq_iff_eq.mpr c3
    have c3b1 : ((l0.length : Int) != (l1.length : Int)) = false := bne_eq_false_iff_eq.mpr c3
    have c3b2 : (l0.length == l1.length) = true := by first | simpa using c3 | (simp at c3 ⊢; omega)
    clear c3
    have H' := Aside0.mk H
    clear H
    go_enter Tryd.func23, Tryd.ntmps23
    go_wp2
    repeat (go_quiet (fail); try go_wp2)
    go_loopg [5] k (fun kq v5 w' => ∃ (x5_1 : Int), v5 = .int .i64 x5_1 ∧ Aside0 (drovewaylaw05_same.l0 kq l0 l1 x5_1 = some r) ∧ Aside0 (kq ≤ k) ∧ Drawn0 w w')
    case atStart => exact ⟨(0), (by first | rfl | (simp; done) | (simp [*]; done)), H', ⟨Nat.le_refl _⟩, by repeat (first | exact Drawn0.refl _ | apply Drawn0.step)⟩
    case round =>
      clear H'
      try clear c1
      try clear c2
      try clear p2
      try clear c3
      try clear c3b0
      try clear c3b1
      try clear c3b2
      obtain ⟨x5_1, rfl, HA, HK1, ⟨m1, rfl⟩⟩ := hrel
      cases gk with
      | zero => exact absurd HA.out (by simp [drovewaylaw05_same.l0])
      | succ k1 =>
        have H := HA.out
        clear HA
        simp only [drovewaylaw05_same.l0] at H
        by_cases c4 : x5_1 < (l0.length : Int)
        · rw [if_pos c4] at H
          have c4b0 : decide (x5_1 < (l0.length : Int)) = true := decide_eq_true c4
          clear c4
          by_cases c5 : 0 ≤ x5_1
          · rw [if_pos c5] at H
            have c5b0 : decide (0 ≤ x5_1) = true := decide_eq_true c5
            clear c5
            by_cases c6 : x5_1 < (l1.length : Int)
            · rw [if_pos c6] at H
              have c6b0 : decide (x5_1 < (l1.length : Int)) = true := decide_eq_true c6
              clear c6
              by_cases c7 : (!(((rd_T44 l0 x5_1).f0) == ((rd_T44 l1 x5_1).f0)) || (!(((rd_T44 l0 x5_1).f1) == ((rd_T44 l1 x5_1).f1)) || (!(((rd_T44 l0 x5_1).f2) == ((rd_T44 l1 x5_1).f2))))) = true
              · rw [if_pos c7] at H
                have c7b0 : (!(((rd_T44 l0 x5_1).f0) == ((rd_T44 l1 x5_1).f0)) || (!(((rd_T44 l0 x5_1).f1) == ((rd_T44 l1 x5_1).f1)) || (!(((rd_T44 l0 x5_1).f2) == ((rd_T44 l1 x5_1).f2))))) = true := c7
                clear c7
                obtain rfl := Option.some.inj H
                have p253 : 0 ≤ (x5_1 : Int) := of_decide_eq_true (by first | (with_reducible assumption) | assumption)
                have q253 : x5_1 < (l0.length : Int) := of_decide_eq_true (by first | (with_reducible assumption) | assumption)
                obtain ⟨ad253, e253, hx253_0, hx253_1, hx253_2⟩ := at_T44 HR0.out x5_1 p253 q253
                cases e253
                replace p253 := eq_true p253
                replace q253 := eq_true q253
                have p254 : 0 ≤ (x5_1 : Int) := of_decide_eq_true (by first | (with_reducible assumption) | assumption)
                have q254 : x5_1 < (l1.length : Int) := of_decide_eq_true (by first | (with_reducible assumption) | assumption)
                obtain ⟨ad254, e254, hx254_0, hx254_1, hx254_2⟩ := at_T44 HR1.out x5_1 p254 q254
                cases e254
                replace p254 := eq_true p254
                replace q254 := eq_true q254
                go_wp2
                repeat (go_quiet (fail); try go_wp2)
                go_ret
                exact ⟨by first | rfl | (simp; done) | (simp [*]; done), by repeat (first | exact Drawn0.refl _ | apply Drawn0.step)⟩
              · rw [if_neg c7] at H
                have c7b0 : (!(((rd_T44 l0 x5_1).f0) == ((rd_T44 l1 x5_1).f0)) || (!(((rd_T44 l0 x5_1).f1) == ((rd_T44 l1 x5_1).f1)) || (!(((rd_T44 l0 x5_1).f2) == ((rd_T44 l1 x5_1).f2))))) = false := by simpa using c7
                clear c7
                have H' := Aside0.mk H
                clear H
                have p253 : 0 ≤ (x5_1 : Int) := of_decide_eq_true (by first | (with_reducible assumption) | assumption)
                have q253 : x5_1 < (l0.length : Int) := of_decide_eq_true (by first | (with_reducible assumption) | assumption)
                obtain ⟨ad253, e253, hx253_0, hx253_1, hx253_2⟩ := at_T44 HR0.out x5_1 p253 q253
                cases e253
                replace p253 := eq_true p253
                replace q253 := eq_true q253
                have p254 : 0 ≤ (x5_1 : Int) := of_decide_eq_true (by first | (with_reducible assumption) | assumption)
                have q254 : x5_1 < (l1.length : Int) := of_decide_eq_true (by first | (with_reducible assumption) | assumption)
                obtain ⟨ad254, e254, hx254_0, hx254_1, hx254_2⟩ := at_T44 HR1.out x5_1 p254 q254
                cases e254
                replace p254 := eq_true p254
                replace q254 := eq_true q254
                go_wp2
                repeat (go_quiet (fail); try go_wp2)
                go_roundg k1
                case measure => have := HK1.out; omega
                case rel => exact ⟨(wrap64 (x5_1 + 1)), (by first | rfl | (simp; done) | (simp [*]; done)), H', ⟨by have := HK1.out; omega⟩, by repeat (first | exact Drawn0.refl _ | apply Drawn0.step)⟩
            · rw [if_neg c6] at H
              exact absurd H (by simp)
          · rw [if_neg c5] at H
            exact absurd H (by simp)
        · rw [if_neg c4] at H
          have c4b0 : decide (x5_1 < (l0.length : Int)) = false := decide_eq_false c4
          clear c4
          obtain rfl := Option.some.inj H
          go_wp2
          repeat (go_quiet (fail); try go_wp2)
          go_ret
          exact ⟨by first | rfl | (simp; done) | (simp [*]; done), by repeat (first | exact Drawn0.refl _ | apply Drawn0.step)⟩
  · rw [if_neg c3] at H
    have c3b0 : ((l0.length : Int) == (l1.length : Int)) = false := beq_eq_false_iff_ne.mpr c3
    have c3b1 : ((l0.length : Int) != (l1.length : Int)) = true := bne_iff_ne.mpr c3
    have c3b2 : (l0.length == l1.length) = false := by first | simpa using c3 | (simp at c3 ⊢; omega)
    obtain rfl := Option.some.inj H
    go_enter Tryd.func23, Tryd.ntmps23
    go_wp2
    repeat (go_quiet (fail); try go_wp2)
    go_ret
    exact ⟨by first | rfl | (simp; done) | (simp [*]; done), by repeat (first | exact Drawn0.refl _ | apply Drawn0.step)⟩

-- NOT PRINTED: function 75 (api_Triple_75)

-- NOT PRINTED: function 57 (api_Triple_57)

-- NOT PRINTED: function 28 (breed_Shows)

end
end Go.Proofs.YtdbbcngmnpejnaaDoor.B

/- The reference's IsTriple, List and given, as the kit's print writes them. -/
namespace Go.Proofs.YtdbbcngmnpejnaaDoor.B
open Go.Proofs.YtdbbcngmnpejnaaDoor.A
open Go.RowKit Go.Proofs.YtdbbcngmnpejnaaDoorW.PrintWords Go.Proofs.YtdbbcngmnpejnaaDoorW.PrintLast Go.Proofs.YtdbbcngmnpejnaaDoorW.PrintMore
section
attribute [local go_sem] max2_int min2_int max_two min_two max_three min_three max_four min_four   -- for this text's walks alone
set_option linter.unusedVariables false
set_option linter.unusedSimpArgs false
/-! ### drovewayref05_IsTriple: function 31 -/
def drovewayref05_IsTriple.f (a0 : Int) (a1_0 : Int) (a1_1 : Int) (a1_2 : Int) : Option (Bool) := if a1_0 ≥ 0 then (if a1_0 < a1_1 then (if a1_1 < a0 then (if a1_2 ≥ 0 then (if a1_2 < a0 then (if a1_2 = a1_0 then (some false) else (some (a1_2 != a1_1))) else (some false)) else (some false)) else (some false)) else (some false)) else (some false)
set_option maxHeartbeats 8000000 in
set_option maxRecDepth 100000 in
theorem drovewayref05_IsTriple.calls (a0 : Int) (a1_0 : Int) (a1_1 : Int) (a1_2 : Int) (r : Bool) (w : World) (h : drovewayref05_IsTriple.f a0 a1_0 a1_1 a1_2 = some r) :
    Calls Tryd.prog 31 #[.int .i64 a0, .agg #[.int .i64 a1_0, .int .i64 a1_1, .int .i64 a1_2]] w fun e w' => e = .returned (.bool r) ∧ Below w.heap.size w w' := by
  have hu44 := Tryd.underlying44
  have HB := Aside0.mk (Below.refl w.heap.size w)
  have H : (if a1_0 ≥ 0 then (if a1_0 < a1_1 then (if a1_1 < a0 then (if a1_2 ≥ 0 then (if a1_2 < a0 then (if a1_2 = a1_0 then (some false) else (some (a1_2 != a1_1))) else (some false)) else (some false)) else (some false)) else (some false)) else (some false)) = some r := h
  clear h
  by_cases c3 : a1_0 ≥ 0
  · rw [if_pos c3] at H
    have c3b0 : decide (0 ≤ a1_0) = true := decide_eq_true c3
    clear c3
    by_cases c4 : a1_0 < a1_1
    · rw [if_pos c4] at H
      have c4b0 : decide (a1_0 < a1_1) = true := decide_eq_true c4
      clear c4
      by_cases c5 : a1_1 < a0
      · rw [if_pos c5] at H
        have c5b0 : decide (a1_1 < a0) = true := decide_eq_true c5
        clear c5
        by_cases c6 : a1_2 ≥ 0
        · rw [if_pos c6] at H
          have c6b0 : decide (0 ≤ a1_2) = true := decide_eq_true c6
          clear c6
          by_cases c7 : a1_2 < a0
          · rw [if_pos c7] at H
            have c7b0 : decide (a1_2 < a0) = true := decide_eq_true c7
            clear c7
            by_cases c8 : a1_2 = a1_0
            · rw [if_pos c8] at H
              have c8b0 : (a1_2 == a1_0) = true := beq_iff_eq.mpr c8
              have c8b1 : (a1_2 != a1_0) = false := bne_eq_false_iff_eq.mpr c8
              clear c8
              obtain rfl := Option.some.inj H
              go_enter Tryd.func31, Tryd.ntmps31
              go_wp2_with (first | ((with_reducible refine gate_dst (N := 3) rfl ?_); refine box_event ?hg (N := 3) ?hd (cs := #[.int .i64 a1_0, .int .i64 a1_1, .int .i64 a1_2]) (t := 44) ?hr ?_; (case hd => rfl); (case hg => rfl); (case hr => first | (go_simp; done) | (go_simp; rfl)); intro gb258 hg w9 hbox hb; have n0_ := Aside0.mk (below_step (by repeat (first | (with_reducible first | exact HB.out | apply below_alloc | apply pw_below_drewN | apply below_drew1) | exact HB.out)) hb); have n1_ := Aside0.mk (hbox); have n2_ := Aside0.mk ((by rw [hg]; exact (below_size (by repeat (first | (with_reducible first | exact HB.out | apply below_alloc | apply pw_below_drewN | apply below_drew1) | exact HB.out))) : w.heap.size ≤ gb258)); have n3_ := Aside0.mk ((by rw [hg]; exact (below_size (by repeat (first | (with_reducible first | exact HB.out | apply below_alloc | apply pw_below_drewN | apply below_drew1) | exact HB.out))) : w.heap.size ≤ gb258)); clear HB; have HB := n0_; have BK258 := n1_; have GW258 := n2_; have GE258 := n3_; clear n0_ n1_ n2_ n3_; clear hb hbox hg; have hcz10_0 : w9.cell? ⟨gb258, 0, none⟩ = some (.int .i64 a1_0) := (blk_cell BK258.out 0).trans rfl; have hcz10_1 : w9.cell? ⟨gb258, 1, none⟩ = some (.int .i64 a1_1) := (blk_cell BK258.out 1).trans rfl; have hcz10_2 : w9.cell? ⟨gb258, 2, none⟩ = some (.int .i64 a1_2) := (blk_cell BK258.out 2).trans rfl; have hfz10_0 := blk_frozen BK258.out 0; have hfz10_1 := blk_frozen BK258.out 1; have hfz10_2 := blk_frozen BK258.out 2))
              go_ret
              exact ⟨by first | rfl | (simp [errW_none, errW_some] <;> rfl) | (simp [*, errW_none, errW_some] <;> rfl), by repeat (first | (with_reducible first | exact HB.out | apply below_alloc | apply pw_below_drewN | apply below_drew1 | refine below_set ?_ GE258.out) | exact HB.out)⟩
            · rw [if_neg c8] at H
              have c8b0 : (a1_2 == a1_0) = false := beq_eq_false_iff_ne.mpr c8
              have c8b1 : (a1_2 != a1_0) = true := bne_iff_ne.mpr c8
              obtain rfl := Option.some.inj H
              go_enter Tryd.func31, Tryd.ntmps31
              go_wp2_with (first | ((with_reducible refine gate_dst (N := 3) rfl ?_); refine box_event ?hg (N := 3) ?hd (cs := #[.int .i64 a1_0, .int .i64 a1_1, .int .i64 a1_2]) (t := 44) ?hr ?_; (case hd => rfl); (case hg => rfl); (case hr => first | (go_simp; done) | (go_simp; rfl)); intro gb258 hg w11 hbox hb; have n0_ := Aside0.mk (below_step (by repeat (first | (with_reducible first | exact HB.out | apply below_alloc | apply pw_below_drewN | apply below_drew1) | exact HB.out)) hb); have n1_ := Aside0.mk (hbox); have n2_ := Aside0.mk ((by rw [hg]; exact (below_size (by repeat (first | (with_reducible first | exact HB.out | apply below_alloc | apply pw_below_drewN | apply below_drew1) | exact HB.out))) : w.heap.size ≤ gb258)); have n3_ := Aside0.mk ((by rw [hg]; exact (below_size (by repeat (first | (with_reducible first | exact HB.out | apply below_alloc | apply pw_below_drewN | apply below_drew1) | exact HB.out))) : w.heap.size ≤ gb258)); clear HB; have HB := n0_; have BK258 := n1_; have GW258 := n2_; have GE258 := n3_; clear n0_ n1_ n2_ n3_; clear hb hbox hg; have hcz12_0 : w11.cell? ⟨gb258, 0, none⟩ = some (.int .i64 a1_0) := (blk_cell BK258.out 0).trans rfl; have hcz12_1 : w11.cell? ⟨gb258, 1, none⟩ = some (.int .i64 a1_1) := (blk_cell BK258.out 1).trans rfl; have hcz12_2 : w11.cell? ⟨gb258, 2, none⟩ = some (.int .i64 a1_2) := (blk_cell BK258.out 2).trans rfl; have hfz12_0 := blk_frozen BK258.out 0; have hfz12_1 := blk_frozen BK258.out 1; have hfz12_2 := blk_frozen BK258.out 2))
              go_ret
              exact ⟨by first | rfl | (simp [errW_none, errW_some] <;> rfl) | (simp [*, errW_none, errW_some] <;> rfl), by repeat (first | (with_reducible first | exact HB.out | apply below_alloc | apply pw_below_drewN | apply below_drew1 | refine below_set ?_ GE258.out) | exact HB.out)⟩
          · rw [if_neg c7] at H
            have c7b0 : decide (a1_2 < a0) = false := decide_eq_false c7
            clear c7
            obtain rfl := Option.some.inj H
            go_enter Tryd.func31, Tryd.ntmps31
            go_wp2_with (first | ((with_reducible refine gate_dst (N := 3) rfl ?_); refine box_event ?hg (N := 3) ?hd (cs := #[.int .i64 a1_0, .int .i64 a1_1, .int .i64 a1_2]) (t := 44) ?hr ?_; (case hd => rfl); (case hg => rfl); (case hr => first | (go_simp; done) | (go_simp; rfl)); intro gb258 hg w13 hbox hb; have n0_ := Aside0.mk (below_step (by repeat (first | (with_reducible first | exact HB.out | apply below_alloc | apply pw_below_drewN | apply below_drew1) | exact HB.out)) hb); have n1_ := Aside0.mk (hbox); have n2_ := Aside0.mk ((by rw [hg]; exact (below_size (by repeat (first | (with_reducible first | exact HB.out | apply below_alloc | apply pw_below_drewN | apply below_drew1) | exact HB.out))) : w.heap.size ≤ gb258)); have n3_ := Aside0.mk ((by rw [hg]; exact (below_size (by repeat (first | (with_reducible first | exact HB.out | apply below_alloc | apply pw_below_drewN | apply below_drew1) | exact HB.out))) : w.heap.size ≤ gb258)); clear HB; have HB := n0_; have BK258 := n1_; have GW258 := n2_; have GE258 := n3_; clear n0_ n1_ n2_ n3_; clear hb hbox hg; have hcz14_0 : w13.cell? ⟨gb258, 0, none⟩ = some (.int .i64 a1_0) := (blk_cell BK258.out 0).trans rfl; have hcz14_1 : w13.cell? ⟨gb258, 1, none⟩ = some (.int .i64 a1_1) := (blk_cell BK258.out 1).trans rfl; have hcz14_2 : w13.cell? ⟨gb258, 2, none⟩ = some (.int .i64 a1_2) := (blk_cell BK258.out 2).trans rfl; have hfz14_0 := blk_frozen BK258.out 0; have hfz14_1 := blk_frozen BK258.out 1; have hfz14_2 := blk_frozen BK258.out 2))
            go_ret
            exact ⟨by first | rfl | (simp [errW_none, errW_some] <;> rfl) | (simp [*, errW_none, errW_some] <;> rfl), by repeat (first | (with_reducible first | exact HB.out | apply below_alloc | apply pw_below_drewN | apply below_drew1 | refine below_set ?_ GE258.out) | exact HB.out)⟩
        · rw [if_neg c6] at H
          have c6b0 : decide (0 ≤ a1_2) = false := decide_eq_false c6
          clear c6
          obtain rfl := Option.some.inj H
          go_enter Tryd.func31, Tryd.ntmps31
          go_wp2_with (first | ((with_reducible refine gate_dst (N := 3) rfl ?_); refine box_event ?hg (N := 3) ?hd (cs := #[.int .i64 a1_0, .int .i64 a1_1, .int .i64 a1_2]) (t := 44) ?hr ?_; (case hd => rfl); (case hg => rfl); (case hr => first | (go_simp; done) | (go_simp; rfl)); intro gb258 hg w15 hbox hb; have n0_ := Aside0.mk (below_step (by repeat (first | (with_reducible first | exact HB.out | apply below_alloc | apply pw_below_drewN | apply below_drew1) | exact HB.out)) hb); have n1_ := Aside0.mk (hbox); have n2_ := Aside0.mk ((by rw [hg]; exact (below_size (by repeat (first | (with_reducible first | exact HB.out | apply below_alloc | apply pw_below_drewN | apply below_drew1) | exact HB.out))) : w.heap.size ≤ gb258)); have n3_ := Aside0.mk ((by rw [hg]; exact (below_size (by repeat (first | (with_reducible first | exact HB.out | apply below_alloc | apply pw_below_drewN | apply below_drew1) | exact HB.out))) : w.heap.size ≤ gb258)); clear HB; have HB := n0_; have BK258 := n1_; have GW258 := n2_; have GE258 := n3_; clear n0_ n1_ n2_ n3_; clear hb hbox hg; have hcz16_0 : w15.cell? ⟨gb258, 0, none⟩ = some (.int .i64 a1_0) := (blk_cell BK258.out 0).trans rfl; have hcz16_1 : w15.cell? ⟨gb258, 1, none⟩ = some (.int .i64 a1_1) := (blk_cell BK258.out 1).trans rfl; have hcz16_2 : w15.cell? ⟨gb258, 2, none⟩ = some (.int .i64 a1_2) := (blk_cell BK258.out 2).trans rfl; have hfz16_0 := blk_frozen BK258.out 0; have hfz16_1 := blk_frozen BK258.out 1; have hfz16_2 := blk_frozen BK258.out 2))
          go_ret
          exact ⟨by first | rfl | (simp [errW_none, errW_some] <;> rfl) | (simp [*, errW_none, errW_some] <;> rfl), by repeat (first | (with_reducible first | exact HB.out | apply below_alloc | apply pw_below_drewN | apply below_drew1 | refine below_set ?_ GE258.out) | exact HB.out)⟩
      · rw [if_neg c5] at H
        have c5b0 : decide (a1_1 < a0) = false := decide_eq_false c5
        clear c5
        obtain rfl := Option.some.inj H
        go_enter Tryd.func31, Tryd.ntmps31
        go_wp2_with (first | ((with_reducible refine gate_dst (N := 3) rfl ?_); refine box_event ?hg (N := 3) ?hd (cs := #[.int .i64 a1_0, .int .i64 a1_1, .int .i64 a1_2]) (t := 44) ?hr ?_; (case hd => rfl); (case hg => rfl); (case hr => first | (go_simp; done) | (go_simp; rfl)); intro gb258 hg w17 hbox hb; have n0_ := Aside0.mk (below_step (by repeat (first | (with_reducible first | exact HB.out | apply below_alloc | apply pw_below_drewN | apply below_drew1) | exact HB.out)) hb); have n1_ := Aside0.mk (hbox); have n2_ := Aside0.mk ((by rw [hg]; exact (below_size (by repeat (first | (with_reducible first | exact HB.out | apply below_alloc | apply pw_below_drewN | apply below_drew1) | exact HB.out))) : w.heap.size ≤ gb258)); have n3_ := Aside0.mk ((by rw [hg]; exact (below_size (by repeat (first | (with_reducible first | exact HB.out | apply below_alloc | apply pw_below_drewN | apply below_drew1) | exact HB.out))) : w.heap.size ≤ gb258)); clear HB; have HB := n0_; have BK258 := n1_; have GW258 := n2_; have GE258 := n3_; clear n0_ n1_ n2_ n3_; clear hb hbox hg; have hcz18_0 : w17.cell? ⟨gb258, 0, none⟩ = some (.int .i64 a1_0) := (blk_cell BK258.out 0).trans rfl; have hcz18_1 : w17.cell? ⟨gb258, 1, none⟩ = some (.int .i64 a1_1) := (blk_cell BK258.out 1).trans rfl; have hcz18_2 : w17.cell? ⟨gb258, 2, none⟩ = some (.int .i64 a1_2) := (blk_cell BK258.out 2).trans rfl; have hfz18_0 := blk_frozen BK258.out 0; have hfz18_1 := blk_frozen BK258.out 1; have hfz18_2 := blk_frozen BK258.out 2))
        go_ret
        exact ⟨by first | rfl | (simp [errW_none, errW_some] <;> rfl) | (simp [*, errW_none, errW_some] <;> rfl), by repeat (first | (with_reducible first | exact HB.out | apply below_alloc | apply pw_below_drewN | apply below_drew1 | refine below_set ?_ GE258.out) | exact HB.out)⟩
    · rw [if_neg c4] at H
      have c4b0 : decide (a1_0 < a1_1) = false := decide_eq_false c4
      clear c4
      obtain rfl := Option.some.inj H
      go_enter Tryd.func31, Tryd.ntmps31
      go_wp2_with (first | ((with_reducible refine gate_dst (N := 3) rfl ?_); refine box_event ?hg (N := 3) ?hd (cs := #[.int .i64 a1_0, .int .i64 a1_1, .int .i64 a1_2]) (t := 44) ?hr ?_; (case hd => rfl); (case hg => rfl); (case hr => first | (go_simp; done) | (go_simp; rfl)); intro gb258 hg w19 hbox hb; have n0_ := Aside0.mk (below_step (by repeat (first | (with_reducible first | exact HB.out | apply below_alloc | apply pw_below_drewN | apply below_drew1) | exact HB.out)) hb); have n1_ := Aside0.mk (hbox); have n2_ := Aside0.mk ((by rw [hg]; exact (below_size (by repeat (first | (with_reducible first | exact HB.out | apply below_alloc | apply pw_below_drewN | apply below_drew1) | exact HB.out))) : w.heap.size ≤ gb258)); have n3_ := Aside0.mk ((by rw [hg]; exact (below_size (by repeat (first | (with_reducible first | exact HB.out | apply below_alloc | apply pw_below_drewN | apply below_drew1) | exact HB.out))) : w.heap.size ≤ gb258)); clear HB; have HB := n0_; have BK258 := n1_; have GW258 := n2_; have GE258 := n3_; clear n0_ n1_ n2_ n3_; clear hb hbox hg; have hcz20_0 : w19.cell? ⟨gb258, 0, none⟩ = some (.int .i64 a1_0) := (blk_cell BK258.out 0).trans rfl; have hcz20_1 : w19.cell? ⟨gb258, 1, none⟩ = some (.int .i64 a1_1) := (blk_cell BK258.out 1).trans rfl; have hcz20_2 : w19.cell? ⟨gb258, 2, none⟩ = some (.int .i64 a1_2) := (blk_cell BK258.out 2).trans rfl; have hfz20_0 := blk_frozen BK258.out 0; have hfz20_1 := blk_frozen BK258.out 1; have hfz20_2 := blk_frozen BK258.out 2))
      go_ret
      exact ⟨by first | rfl | (simp [errW_none, errW_some] <;> rfl) | (simp [*, errW_none, errW_some] <;> rfl), by repeat (first | (with_reducible first | exact HB.out | apply below_alloc | apply pw_below_drewN | apply below_drew1 | refine below_set ?_ GE258.out) | exact HB.out)⟩
  · rw [if_neg c3] at H
    have c3b0 : decide (0 ≤ a1_0) = false := decide_eq_false c3
    clear c3
    obtain rfl := Option.some.inj H
    go_enter Tryd.func31, Tryd.ntmps31
    go_wp2_with (first | ((with_reducible refine gate_dst (N := 3) rfl ?_); refine box_event ?hg (N := 3) ?hd (cs := #[.int .i64 a1_0, .int .i64 a1_1, .int .i64 a1_2]) (t := 44) ?hr ?_; (case hd => rfl); (case hg => rfl); (case hr => first | (go_simp; done) | (go_simp; rfl)); intro gb258 hg w21 hbox hb; have n0_ := Aside0.mk (below_step (by repeat (first | (with_reducible first | exact HB.out | apply below_alloc | apply pw_below_drewN | apply below_drew1) | exact HB.out)) hb); have n1_ := Aside0.mk (hbox); have n2_ := Aside0.mk ((by rw [hg]; exact (below_size (by repeat (first | (with_reducible first | exact HB.out | apply below_alloc | apply pw_below_drewN | apply below_drew1) | exact HB.out))) : w.heap.size ≤ gb258)); have n3_ := Aside0.mk ((by rw [hg]; exact (below_size (by repeat (first | (with_reducible first | exact HB.out | apply below_alloc | apply pw_below_drewN | apply below_drew1) | exact HB.out))) : w.heap.size ≤ gb258)); clear HB; have HB := n0_; have BK258 := n1_; have GW258 := n2_; have GE258 := n3_; clear n0_ n1_ n2_ n3_; clear hb hbox hg; have hcz22_0 : w21.cell? ⟨gb258, 0, none⟩ = some (.int .i64 a1_0) := (blk_cell BK258.out 0).trans rfl; have hcz22_1 : w21.cell? ⟨gb258, 1, none⟩ = some (.int .i64 a1_1) := (blk_cell BK258.out 1).trans rfl; have hcz22_2 : w21.cell? ⟨gb258, 2, none⟩ = some (.int .i64 a1_2) := (blk_cell BK258.out 2).trans rfl; have hfz22_0 := blk_frozen BK258.out 0; have hfz22_1 := blk_frozen BK258.out 1; have hfz22_2 := blk_frozen BK258.out 2))
    go_ret
    exact ⟨by first | rfl | (simp [errW_none, errW_some] <;> rfl) | (simp [*, errW_none, errW_some] <;> rfl), by repeat (first | (with_reducible first | exact HB.out | apply below_alloc | apply pw_below_drewN | apply below_drew1 | refine below_set ?_ GE258.out) | exact HB.out)⟩

/-! ### drovewayref05_List: function 30 -/
def drovewayref05_List.l0 : Nat → Int → List (S44) → Int → Option (Int)
  | 0, _, _, _ => none
  | k + 1, x0, x1, x5 => if x5 < (x1.length : Int) then (if 0 ≤ x5 then ((drovewayref05_IsTriple.f x0 ((rd_T44 x1 x5).f0) ((rd_T44 x1 x5).f1) ((rd_T44 x1 x5).f2)).bind fun t260 => (if t260 = true then (drovewayref05_List.l0 k x0 x1 (wrap64 (x5 + 1))) else (some 2))) else (none)) else (some 0)
def drovewayref05_List.f (k : Nat) (a0 : Int) (l1 : List (S44)) : Option (Int) := if (l1.length : Int) > 60 then (some 3) else (drovewayref05_List.l0 k a0 l1 0)
theorem drovewayref05_List.mono_l : ∀ k, (∀ y0 y1 y2, LeO (drovewayref05_List.l0 k y0 y1 y2) (drovewayref05_List.l0 (k + 1) y0 y1 y2))
  | 0 => fun _ _ _ r h => by simp [drovewayref05_List.l0] at h
  | k + 1 => by
    have ih0 := drovewayref05_List.mono_l k
    · intro y0 y1 y2
      unfold drovewayref05_List.l0
      repeat' first
      | (with_reducible exact ih0 _ _ _)
      | (with_reducible exact LeO.refl _)
      | (with_reducible exact LeO.none _)
      | (with_reducible refine LeO.ite ?_ ?_)
      | (with_reducible refine LeO.bind ?_ (fun _ => ?_))
      | exact ih0 _ _ _
      | exact LeO.none _
      | refine LeO.ite ?_ ?_
      | refine LeO.bind ?_ (fun _ => ?_)
theorem drovewayref05_List.mono : ∀ a0 a1 k, LeO (drovewayref05_List.f k a0 a1) (drovewayref05_List.f (k + 1) a0 a1) := by
  intro a0 a1 k
  have ih0 := drovewayref05_List.mono_l k
  unfold drovewayref05_List.f
  repeat' first
      | (with_reducible exact ih0 _ _ _)
      | (with_reducible exact LeO.refl _)
      | (with_reducible exact LeO.none _)
      | (with_reducible refine LeO.ite ?_ ?_)
      | (with_reducible refine LeO.bind ?_ (fun _ => ?_))
      | exact ih0 _ _ _
      | exact LeO.none _
      | refine LeO.ite ?_ ?_
      | refine LeO.bind ?_ (fun _ => ?_)
set_option maxHeartbeats 8000000 in
set_option maxRecDepth 100000 in
theorem drovewayref05_List.calls (k : Nat) (a0 : Int) (A1 : Option Addr) (c1 : Nat) (l1 : List (S44)) (r : Int) (w : World) (hr1 : Kd.C k44 w A1 l1.length l1) (hc1 : l1.length ≤ c1) (h : drovewayref05_List.f k a0 l1 = some r) :
    Calls Tryd.prog 30 #[.int .i64 a0, .slice A1 l1.length c1] w fun e w' => e = .returned (.int .i64 r) ∧ Below w.heap.size w w' := by
  have hu44 := Tryd.underlying44
  have HR1 := Aside0.mk hr1
  have HC1 := Aside0.mk hc1
  clear hr1 hc1
  have HB := Aside0.mk (Below.refl w.heap.size w)
  have H : (if (l1.length : Int) > 60 then (some 3) else (drovewayref05_List.l0 k a0 l1 0)) = some r := h
  clear h
  by_cases c3 : (l1.length : Int) > 60
  · rw [if_pos c3] at H
    have c3b0 : decide (60 < (l1.length : Int)) = true := decide_eq_true c3
    have c3b1 : decide (60 < l1.length) = true := decide_eq_true (by omega)
    clear c3
    obtain rfl := Option.some.inj H
    go_enter Tryd.func30, Tryd.ntmps30
    go_wp2
    go_ret
    exact ⟨by first | rfl | (simp [errW_none, errW_some] <;> rfl) | (simp [*, errW_none, errW_some] <;> rfl), by repeat (first | (with_reducible first | exact HB.out | apply below_alloc | apply pw_below_drewN | apply below_drew1) | exact HB.out)⟩
  · rw [if_neg c3] at H
    have c3b0 : decide (60 < (l1.length : Int)) = false := decide_eq_false c3
    have c3b1 : decide (60 < l1.length) = false := decide_eq_false (by omega)
    clear c3
    have H' := Aside0.mk H
    clear H
    go_enter Tryd.func30, Tryd.ntmps30
    go_wp2
    go_loopg [5] k (fun kq v5 w' => ∃ (x5_1 : Int), v5 = .int .i64 x5_1 ∧ Aside0 (drovewayref05_List.l0 kq a0 l1 x5_1 = some r) ∧ Aside0 (kq ≤ k) ∧ Aside0 (Below w.heap.size w w'))
    case atStart => exact ⟨(0), (by first | rfl | (simp; done) | (simp [*]; done)), H', ⟨Nat.le_refl _⟩, ⟨by repeat (first | (with_reducible first | exact HB.out | apply below_alloc | apply pw_below_drewN | apply below_drew1) | exact HB.out)⟩⟩
    case round =>
      clear H'
      try clear c1
      try clear p2
      try clear c3
      try clear c3b0
      try clear c3b1
      obtain ⟨x5_1, rfl, HA, HK1, HB⟩ := hrel
      cases gk with
      | zero => exact absurd HA.out (by simp [drovewayref05_List.l0])
      | succ k1 =>
        have H := HA.out
        clear HA
        simp only [drovewayref05_List.l0] at H
        by_cases c4 : x5_1 < (l1.length : Int)
        · rw [if_pos c4] at H
          have c4b0 : decide (x5_1 < (l1.length : Int)) = true := decide_eq_true c4
          clear c4
          by_cases c5 : 0 ≤ x5_1
          · rw [if_pos c5] at H
            have c5b0 : decide (0 ≤ x5_1) = true := decide_eq_true c5
            clear c5
            replace H := Option.bind_eq_some_iff.mp H
            obtain ⟨t260, A60, H⟩ := H
            replace H : (if t260 = true then (drovewayref05_List.l0 k1 a0 l1 (wrap64 (x5_1 + 1))) else (some 2)) = some r := H
            have A6 := Aside0.mk A60
            clear A60
            by_cases c7 : t260 = true
            · subst c7
              have H1 : (drovewayref05_List.l0 k1 a0 l1 (wrap64 (x5_1 + 1))) = some r := by rw [if_pos rfl] at H; exact H
              clear H
              have H := H1
              clear H1
              have H' := Aside0.mk H
              clear H
              have p259 : 0 ≤ (x5_1 : Int) := of_decide_eq_true (by first | (with_reducible assumption) | assumption)
              have q259 : x5_1 < (l1.length : Int) := of_decide_eq_true (by first | (with_reducible assumption) | assumption)
              obtain ⟨ad259, e259, hx259_0, hx259_1, hx259_2⟩ := at_T44 HR1.out x5_1 p259 q259
              cases e259
              replace hx259_0 := (HB.out.cell (World.block_lt_of_cell? w _ hx259_0)).trans hx259_0
              replace hx259_1 := (HB.out.cell (World.block_lt_of_cell? w _ hx259_1)).trans hx259_1
              replace hx259_2 := (HB.out.cell (World.block_lt_of_cell? w _ hx259_2)).trans hx259_2
              replace p259 := eq_true p259
              replace q259 := eq_true q259
              go_wp2_with (first | ((with_reducible refine gate_callee (f := 31) rfl ?_); refine goesL_ (some 20) rfl rfl Tryd.func31 (by kernel_rfl) rfl #[.int .i64 a0, .agg #[.int .i64 ((rd_T44 l1 x5_1).f0), .int .i64 ((rd_T44 l1 x5_1).f1), .int .i64 ((rd_T44 l1 x5_1).f2)]] rfl (by (try simp only [List.map_toArray, List.map_cons, List.map_nil]); first | done | rfl | (simp only [List.length_drop, List.length_take]; rfl)) ?_; (with_reducible refine (drovewayref05_IsTriple.calls a0 ((rd_T44 l1 x5_1).f0) ((rd_T44 l1 x5_1).f1) ((rd_T44 l1 x5_1).f2) true _ A6.out).mono ?_); rintro e w8 ⟨rfl, hb⟩; refine ⟨_, rfl, ?_⟩; have n0_ := Aside0.mk (below_step (by repeat (first | (with_reducible first | exact HB.out | apply below_alloc | apply pw_below_drewN | apply below_drew1) | exact HB.out)) hb); clear HB; have HB := n0_; clear n0_; (try clear hb); (try clear hb2); (try clear hk); (try clear hi)))
              go_roundg k1
              case measure => have := HK1.out; omega
              case rel => exact ⟨(wrap64 (x5_1 + 1)), (by first | rfl | (simp; done) | (simp [*]; done)), H', ⟨by have := HK1.out; omega⟩, ⟨by repeat (first | (with_reducible first | exact HB.out | apply below_alloc | apply pw_below_drewN | apply below_drew1) | exact HB.out)⟩⟩
            · replace c7 := Bool.eq_false_iff.mpr c7
              subst c7
              have H1 : (some 2) = some r := by rw [if_neg (show ¬ (false = true) by decide)] at H; exact H
              clear H
              have H := H1
              clear H1
              obtain rfl := Option.some.inj H
              have p259 : 0 ≤ (x5_1 : Int) := of_decide_eq_true (by first | (with_reducible assumption) | assumption)
              have q259 : x5_1 < (l1.length : Int) := of_decide_eq_true (by first | (with_reducible assumption) | assumption)
              obtain ⟨ad259, e259, hx259_0, hx259_1, hx259_2⟩ := at_T44 HR1.out x5_1 p259 q259
              cases e259
              replace hx259_0 := (HB.out.cell (World.block_lt_of_cell? w _ hx259_0)).trans hx259_0
              replace hx259_1 := (HB.out.cell (World.block_lt_of_cell? w _ hx259_1)).trans hx259_1
              replace hx259_2 := (HB.out.cell (World.block_lt_of_cell? w _ hx259_2)).trans hx259_2
              replace p259 := eq_true p259
              replace q259 := eq_true q259
              go_wp2_with (first | ((with_reducible refine gate_callee (f := 31) rfl ?_); refine goesL_ (some 20) rfl rfl Tryd.func31 (by kernel_rfl) rfl #[.int .i64 a0, .agg #[.int .i64 ((rd_T44 l1 x5_1).f0), .int .i64 ((rd_T44 l1 x5_1).f1), .int .i64 ((rd_T44 l1 x5_1).f2)]] rfl (by (try simp only [List.map_toArray, List.map_cons, List.map_nil]); first | done | rfl | (simp only [List.length_drop, List.length_take]; rfl)) ?_; (with_reducible refine (drovewayref05_IsTriple.calls a0 ((rd_T44 l1 x5_1).f0) ((rd_T44 l1 x5_1).f1) ((rd_T44 l1 x5_1).f2) false _ A6.out).mono ?_); rintro e w9 ⟨rfl, hb⟩; refine ⟨_, rfl, ?_⟩; have n0_ := Aside0.mk (below_step (by repeat (first | (with_reducible first | exact HB.out | apply below_alloc | apply pw_below_drewN | apply below_drew1) | exact HB.out)) hb); clear HB; have HB := n0_; clear n0_; (try clear hb); (try clear hb2); (try clear hk); (try clear hi)))
              go_ret
              exact ⟨by first | rfl | (simp [errW_none, errW_some] <;> rfl) | (simp [*, errW_none, errW_some] <;> rfl), by repeat (first | (with_reducible first | exact HB.out | apply below_alloc | apply pw_below_drewN | apply below_drew1) | exact HB.out)⟩
          · rw [if_neg c5] at H
            exact absurd H (by simp)
        · rw [if_neg c4] at H
          have c4b0 : decide (x5_1 < (l1.length : Int)) = false := decide_eq_false c4
          clear c4
          obtain rfl := Option.some.inj H
          go_wp2
          go_ret
          exact ⟨by first | rfl | (simp [errW_none, errW_some] <;> rfl) | (simp [*, errW_none, errW_some] <;> rfl), by repeat (first | (with_reducible first | exact HB.out | apply below_alloc | apply pw_below_drewN | apply below_drew1) | exact HB.out)⟩

/-! ### drovewayref05_given: function 45 -/
def drovewayref05_given.f (k : Nat) (a0 : Int) (l1 : List (S44)) : Option (Int) := if a0 < 1 then (some 2) else (if a0 > 8 then (some 2) else ((drovewayref05_List.f k a0 l1).bind fun t256 => (some t256)))
theorem drovewayref05_given.mono : ∀ a0 a1 k, LeO (drovewayref05_given.f k a0 a1) (drovewayref05_given.f (k + 1) a0 a1) := by
  intro a0 a1 k
  unfold drovewayref05_given.f
  repeat' first
      | (with_reducible exact drovewayref05_List.mono _ _ _)
      | (with_reducible exact LeO.refl _)
      | (with_reducible exact LeO.none _)
      | (with_reducible refine LeO.ite ?_ ?_)
      | (with_reducible refine LeO.bind ?_ (fun _ => ?_))
      | exact drovewayref05_List.mono _ _ _
      | exact LeO.none _
      | refine LeO.ite ?_ ?_
      | refine LeO.bind ?_ (fun _ => ?_)
set_option maxHeartbeats 8000000 in
set_option maxRecDepth 100000 in
theorem drovewayref05_given.calls (k : Nat) (a0 : Int) (A1 : Option Addr) (c1 : Nat) (l1 : List (S44)) (r : Int) (w : World) (hr1 : Kd.C k44 w A1 l1.length l1) (hc1 : l1.length ≤ c1) (h : drovewayref05_given.f k a0 l1 = some r) :
    Calls Tryd.prog 45 #[.int .i64 a0, .slice A1 l1.length c1] w fun e w' => e = .returned (.int .i64 r) ∧ Below w.heap.size w w' := by
  have HR1 := Aside0.mk hr1
  have HC1 := Aside0.mk hc1
  clear hr1 hc1
  have HB := Aside0.mk (Below.refl w.heap.size w)
  have H : (if a0 < 1 then (some 2) else (if a0 > 8 then (some 2) else ((drovewayref05_List.f k a0 l1).bind fun t256 => (some t256)))) = some r := h
  clear h
  by_cases c3 : a0 < 1
  · rw [if_pos c3] at H
    have c3b0 : decide (a0 < 1) = true := decide_eq_true c3
    clear c3
    obtain rfl := Option.some.inj H
    go_enter Tryd.func45, Tryd.ntmps45
    go_wp2
    go_ret
    exact ⟨by first | rfl | (simp [errW_none, errW_some] <;> rfl) | (simp [*, errW_none, errW_some] <;> rfl), by repeat (first | (with_reducible first | exact HB.out | apply below_alloc | apply pw_below_drewN | apply below_drew1) | exact HB.out)⟩
  · rw [if_neg c3] at H
    have c3b0 : decide (a0 < 1) = false := decide_eq_false c3
    clear c3
    by_cases c4 : a0 > 8
    · rw [if_pos c4] at H
      have c4b0 : decide (8 < a0) = true := decide_eq_true c4
      clear c4
      obtain rfl := Option.some.inj H
      go_enter Tryd.func45, Tryd.ntmps45
      go_wp2
      go_ret
      exact ⟨by first | rfl | (simp [errW_none, errW_some] <;> rfl) | (simp [*, errW_none, errW_some] <;> rfl), by repeat (first | (with_reducible first | exact HB.out | apply below_alloc | apply pw_below_drewN | apply below_drew1) | exact HB.out)⟩
    · rw [if_neg c4] at H
      have c4b0 : decide (8 < a0) = false := decide_eq_false c4
      clear c4
      replace H := Option.bind_eq_some_iff.mp H
      obtain ⟨t256, A50, H⟩ := H
      replace H : (some t256) = some r := H
      have A5 := Aside0.mk A50
      clear A50
      obtain rfl := Option.some.inj H
      go_enter Tryd.func45, Tryd.ntmps45
      go_wp2_with (first | ((with_reducible refine gate_callee (f := 30) rfl ?_); refine goesL_ (some 13) rfl rfl Tryd.func30 (by kernel_rfl) rfl #[.int .i64 a0, .slice A1 l1.length c1] rfl (by (try simp only [List.map_toArray, List.map_cons, List.map_nil]); first | done | rfl | (simp only [List.length_drop, List.length_take]; rfl)) ?_; (with_reducible refine (drovewayref05_List.calls k a0 _ _ l1 t256 _ ?side1 ?side2 A5.out).mono ?_); (case side1 => repeat (first | exact HR1.out | (with_reducible refine Kd.C_alloc ?_ _) | (with_reducible refine Kd.C_drewN ?_ _) | (with_reducible refine Kd.C_drew ?_))); (case side2 => exact HC1.out); rintro e w6 ⟨rfl, hb⟩; refine ⟨_, rfl, ?_⟩; have n0_ := Aside0.mk (below_step (by repeat (first | (with_reducible first | exact HB.out | apply below_alloc | apply pw_below_drewN | apply below_drew1) | exact HB.out)) hb); clear HB; have HB := n0_; clear n0_; (try clear hb); (try clear hb2); (try clear hk); (try clear hi)))
      go_ret
      exact ⟨by first | rfl | (simp [errW_none, errW_some] <;> rfl) | (simp [*, errW_none, errW_some] <;> rfl), by repeat (first | (with_reducible first | exact HB.out | apply below_alloc | apply pw_below_drewN | apply below_drew1) | exact HB.out)⟩

-- NOT PRINTED: function 50 (drovewayref05_parts)

end
end Go.Proofs.YtdbbcngmnpejnaaDoor.B

/- few, same, IsTriple, List, given: what they answer, plain. -/
namespace Go.Proofs.YtdbbcngmnpejnaaDoor.B
open Go.Proofs.YtdbbcngmnpejnaaDoor.A
open Go.RowKit Go.Proofs.YtdbbcngmnpejnaaDoorW.PrintWords Go.Proofs.YtdbbcngmnpejnaaDoorW.PrintMore

theorem s44_ext {a b : S44} : a = b ↔ a.f0 = b.f0 ∧ a.f1 = b.f1 ∧ a.f2 = b.f2 := by
  obtain ⟨a0, a1, a2⟩ := a
  obtain ⟨b0, b1, b2⟩ := b
  simp
instance : DecidableEq S44 := fun _ _ => decidable_of_iff _ s44_ext.symm
theorem few_calls (A : Option Addr) (c : Nat) (l : List S44) (s : ByteArray) (w : World) (hr : Kd.C k44 w A l.length l) (hc : l.length ≤ c) :
    Calls Tryd.prog 16 #[.slice A l.length c, .string s] w fun e w' => e = .returned (.bool (decide (l.length ≤ 100 ∧ s.size ≤ 100))) ∧ Below w.heap.size w w' := by
  refine (drovewaylaw05_few.calls A c l s (decide (l.length ≤ 100 ∧ s.size ≤ 100)) w hr hc ?_).mono fun _ _ ⟨p, q⟩ => ⟨p, q.below⟩
  unfold drovewaylaw05_few.f
  by_cases h : l.length ≤ 100
  · rw [if_pos (by omega)]
    congr 1
    simp only [decide_eq_decide]
    omega
  · rw [if_neg (by omega), decide_eq_false (fun h2 => h h2.1)]
theorem triple_some (n : Int) (t : S44) : drovewayref05_IsTriple.f n t.f0 t.f1 t.f2 = some (okTri n t) := by
  unfold drovewayref05_IsTriple.f okTri
  by_cases h1 : 0 ≤ t.f0
  · rw [if_pos h1, decide_eq_true h1]
    by_cases h2 : t.f0 < t.f1
    · rw [if_pos h2, decide_eq_true h2]
      by_cases h3 : t.f1 < n
      · rw [if_pos h3, decide_eq_true h3]
        by_cases h4 : 0 ≤ t.f2
        · rw [if_pos h4, decide_eq_true h4]
          by_cases h5 : t.f2 < n
          · rw [if_pos h5, decide_eq_true h5]
            by_cases h6 : t.f2 = t.f0
            · rw [if_pos h6, decide_eq_false (show ¬ t.f2 ≠ t.f0 from fun h => h h6)]; rfl
            · rw [if_neg h6, decide_eq_true (show t.f2 ≠ t.f0 from h6)]
              by_cases h7 : t.f2 = t.f1
              · rw [decide_eq_false (show ¬ t.f2 ≠ t.f1 from fun h => h h7), bne_eq_false_iff_eq.mpr h7]; rfl
              · rw [decide_eq_true (show t.f2 ≠ t.f1 from h7), bne_iff_ne.mpr h7]; rfl
          · rw [if_neg h5, decide_eq_false h5]; rfl
        · rw [if_neg h4, decide_eq_false h4]; rfl
      · rw [if_neg h3, decide_eq_false h3]; rfl
    · rw [if_neg h2, decide_eq_false h2]; rfl
  · rw [if_neg h1, decide_eq_false h1]; rfl
theorem IsTriple_calls (n : Int) (t : S44) (w : World) : Calls Tryd.prog 31 #[.int .i64 n, .agg #[.int .i64 t.f0, .int .i64 t.f1, .int .i64 t.f2]] w fun e w' => e = .returned (.bool (okTri n t)) ∧ Below w.heap.size w w' :=
  drovewayref05_IsTriple.calls n _ _ _ _ w (triple_some n t)
theorem list_loop (n : Int) (l : List S44) (hl : l.length ≤ 60) : ∀ d i : Nat, i + d = l.length → drovewayref05_List.l0 (d + 1) n l (i : Int) = some (if (l.drop i).all (okTri n) = true then 0 else 2)
  | 0, i, h => by
    rw [drovewayref05_List.l0, if_neg (by omega), List.drop_of_length_le (by omega)]
    rfl
  | d + 1, i, h => by
    have hi : i < l.length := by omega
    have hw : wrap64 ((i : Int) + 1) = ((i + 1 : Nat) : Int) := by unfold wrap64; omega
    have hrd : rd_T44 l (i : Int) = l[i] := by simp only [rd_T44, Int.toNat_natCast, List.getD_eq_getElem?_getD, List.getElem?_eq_getElem hi, Option.getD_some]
    rw [drovewayref05_List.l0, if_pos (by omega), if_pos (by omega), hrd, triple_some, Option.bind_some, hw, list_loop n l hl d (i + 1) (by omega), List.drop_eq_getElem_cons hi, List.all_cons]
    cases okTri n l[i] with
    | true => rw [if_pos rfl, Bool.true_and]
    | false => rw [if_neg Bool.false_ne_true, Bool.false_and, if_neg Bool.false_ne_true]
theorem list_some (n : Int) (l : List S44) : ∃ k, drovewayref05_List.f k n l = some (listE n l) := by
  unfold drovewayref05_List.f listE
  by_cases h : 60 < l.length
  · exact ⟨0, by rw [if_pos (by omega), if_pos h]⟩
  · refine ⟨l.length + 1, ?_⟩
    rw [if_neg (by omega), if_neg h]
    have := list_loop n l (by omega) l.length 0 (by omega)
    rw [List.drop_zero] at this
    exact this
theorem List_calls (n : Int) (A : Option Addr) (c : Nat) (l : List S44) (w : World) (hr : Kd.C k44 w A l.length l) (hc : l.length ≤ c) :
    Calls Tryd.prog 30 #[.int .i64 n, .slice A l.length c] w fun e w' => e = .returned (.int .i64 (listE n l)) ∧ Below w.heap.size w w' := by
  obtain ⟨k, hk⟩ := list_some n l
  exact drovewayref05_List.calls k n A c l _ w hr hc hk
theorem same_loop (l m : List S44) (hl : l.length = m.length) (hb : l.length ≤ 9223372036854775807) : ∀ d i : Nat, i + d = l.length → drovewaylaw05_same.l0 (d + 1) l m (i : Int) = some (decide (l.drop i = m.drop i))
  | 0, i, h => by
    rw [drovewaylaw05_same.l0, if_neg (by omega), List.drop_of_length_le (by omega), List.drop_of_length_le (by omega)]
    rfl
  | d + 1, i, h => by
    have hi : i < l.length := by omega
    have hi2 : i < m.length := by omega
    have hw : wrap64 ((i : Int) + 1) = ((i + 1 : Nat) : Int) := by unfold wrap64; omega
    have hrd : rd_T44 l (i : Int) = l[i] := by simp only [rd_T44, Int.toNat_natCast, List.getD_eq_getElem?_getD, List.getElem?_eq_getElem hi, Option.getD_some]
    have hrd2 : rd_T44 m (i : Int) = m[i] := by simp only [rd_T44, Int.toNat_natCast, List.getD_eq_getElem?_getD, List.getElem?_eq_getElem hi2, Option.getD_some]
    rw [drovewaylaw05_same.l0, if_pos (by omega), if_pos (by omega), if_pos (by omega), hrd, hrd2, hw, same_loop l m hl hb d (i + 1) (by omega), List.drop_eq_getElem_cons hi, List.drop_eq_getElem_cons hi2]
    generalize l[i] = a
    generalize m[i] = b
    by_cases e : a = b
    · subst e
      rw [if_neg (by simp)]
      congr 1
      simp
    · have e2 := fun h => e (s44_ext.mpr h)
      rw [if_pos (by
        rw [Bool.or_eq_true, Bool.or_eq_true, Bool.not_eq_true', Bool.not_eq_true', Bool.not_eq_true', beq_eq_false_iff_ne, beq_eq_false_iff_ne, beq_eq_false_iff_ne]
        by_cases e3 : a.f0 = b.f0
        · by_cases e4 : a.f1 = b.f1
          · by_cases e5 : a.f2 = b.f2
            · exact absurd ⟨e3, e4, e5⟩ e2
            · exact .inr (.inr e5)
          · exact .inr (.inl e4)
        · exact .inl e3), decide_eq_false (by intro h; injection h with h1 h2; exact e h1)]
theorem same_calls (A : Option Addr) (c : Nat) (l : List S44) (A2 : Option Addr) (c2 : Nat) (m : List S44) (w : World) (hr : Kd.C k44 w A l.length l) (hc : l.length ≤ c) (hr2 : Kd.C k44 w A2 m.length m) (hc2 : m.length ≤ c2) :
    Calls Tryd.prog 23 #[.slice A l.length c, .slice A2 m.length c2] w fun e w' => e = .returned (.bool (decide (l = m))) ∧ Below w.heap.size w w' := by
  refine (drovewaylaw05_same.calls (l.length + 1) A c l A2 c2 m (decide (l = m)) w hr hc hr2 hc2 ?_).mono fun _ _ ⟨p, q⟩ => ⟨p, q.below⟩
  unfold drovewaylaw05_same.f
  by_cases h : l.length = m.length
  · have := same_loop l m h (by have := hr.2.1; omega) l.length 0 (by omega)
    rw [List.drop_zero, List.drop_zero] at this
    rw [if_pos (by omega)]
    exact this
  · rw [if_neg (by omega), decide_eq_false (fun e => h (by rw [e]))]
end Go.Proofs.YtdbbcngmnpejnaaDoor.B

/- BreedAho, walked: it returns true. -/
namespace Go.Proofs.YtdbbcngmnpejnaaDoor.B
open Go.Proofs.YtdbbcngmnpejnaaDoor.A
open Go.RowKit Go.Proofs.YtdbbcngmnpejnaaDoorW.PrintWords Go.Proofs.YtdbbcngmnpejnaaDoorW.PrintMore

theorem strB_of (s : ByteArray) : ∃ L, strB L = s ∧ L.length = s.size := ⟨s.data.toList, by
  obtain ⟨⟨d⟩⟩ := s
  rfl, Array.length_toList⟩
theorem shows_sound {n : Int} {L : List UInt8} {l : List S44} (h : (showsE n L l).1 = true) : ∃ t, parseE n L = some t ∧ l.all (showsT t) = true ∧ showsE n L l = (true, 0) := by
  unfold showsE at h ⊢
  cases hp : parseE n L with
  | none => rw [hp] at h; cases h
  | some t =>
    rw [hp] at h
    dsimp only at h ⊢
    by_cases h0 : listE n l = 0
    · rw [if_pos h0] at h ⊢
      exact ⟨t, rfl, h, by rw [show l.all (showsT t) = true from h]⟩
    · rw [if_neg h0] at h; cases h
set_option maxRecDepth 100000 in
set_option maxHeartbeats 6400000 in
theorem aho_any (n : Int) (A : Option Addr) (c : Nat) (l : List S44) (s : ByteArray) (W : World) (hr : Kd.C k44 W A l.length l) (hc : l.length ≤ c) (hT : TabAt W) :
    Calls Tryd.prog 8 #[.int .i64 n, .slice A l.length c, .string s] W fun e w' => e = .returned (.bool true) ∧ Below W.heap.size W w' := by
  obtain ⟨L, hLs, _⟩ := strB_of s
  have HT := Aside0.mk hT
  have HR := Aside0.mk hr
  have HFW := Aside0.mk (few_calls A c l s W hr hc)
  have HAL : Aside0 (∀ w, Below W.heap.size W w → Calls Tryd.prog 15 #[] w fun e w' => e = .returned (.bool true) ∧ Below w.heap.size w w') := ⟨fun w hb => alive_calls w (HT.out.next hb)⟩
  have HBD : Aside0 (∀ w, Below W.heap.size W w → Calls Tryd.prog 17 #[.int .i64 n, .slice A l.length c] w fun e w' => e = .returned (.tuple #[.string (buildE n l).1, .int .i64 (buildE n l).2]) ∧ Below w.heap.size w w') := ⟨fun w hb => Build_calls n A c l w (Kd.C_below HR.out hb) hc (HT.out.next hb)⟩
  have HKN : Aside0 (∀ w, Below W.heap.size W w → Calls Tryd.prog 19 #[.int .i64 n, .slice A l.length c] w fun e w' => e = .returned (.tuple #[.int .i64 (knotE n l).1, .int .i64 (knotE n l).2]) ∧ Below w.heap.size w w') := ⟨fun w hb => Knot_calls n A c l w (Kd.C_below HR.out hb) hc⟩
  have HLI : Aside0 (∀ w, Below W.heap.size W w → Calls Tryd.prog 30 #[.int .i64 n, .slice A l.length c] w fun e w' => e = .returned (.int .i64 (listE n l)) ∧ Below w.heap.size w w') := ⟨fun w hb => List_calls n A c l w (Kd.C_below HR.out hb) hc⟩
  have HSH : Aside0 (∀ (L : List UInt8) w, Below W.heap.size W w → Calls Tryd.prog 28 #[.int .i64 n, .string (strB L), .slice A l.length c] w fun e w' => e = .returned (.tuple #[.bool (showsE n L l).1, .int .i64 (showsE n L l).2]) ∧ Below w.heap.size w w') := ⟨fun L w hb => Shows_calls n L A c l w (Kd.C_below HR.out hb) hc (HT.out.next hb)⟩
  have HJO : Aside0 (∀ k w, Below W.heap.size W w → Calls Tryd.prog 21 #[.int .i64 n, .slice A l.length c, .int .i64 k] w (RowE (joinE n l k) w)) := ⟨fun k w hb => Joined_calls n A c l k w (Kd.C_below HR.out hb) hc⟩
  have HS1 := Aside0.mk (fun w hb => HSH.out L w hb)
  have HIT : Aside0 (∀ (L : List UInt8) w, Below W.heap.size W w → Calls Tryd.prog 32 #[.int .i64 n, .string (strB L)] w fun e w' => e = .returned (.bool (parseE n L).isSome) ∧ Below w.heap.size w w') := ⟨fun L w hb => IsTree_calls n L w (HT.out.next hb)⟩
  rw [hLs] at HS1
  have hsz := hLs
  clear hsz hLs
  obtain ⟨len, hlen⟩ : ∃ len, l.length = len := ⟨_, rfl⟩
  rw [hlen] at HFW HBD HKN HLI HSH HJO HS1 ⊢
  generalize hfew : decide (len ≤ 100 ∧ s.size ≤ 100) = fw at HFW
  clear hr hc hT hfew hlen
  cases fw with
  | false =>
    go_enter Tryd.func8, Tryd.ntmps8
    go_wp2_with (first
      | (go_at_call 16; go_must (refine HFW.out.mono ?_; rintro e w1 ⟨rfl, hb⟩; have HB1 := Aside0.mk hb; clear hb))
      | (go_at_call 15; go_must (refine (HAL.out _ HB1.out).mono ?_; rintro e w2 ⟨rfl, hb⟩; have HB2 := Aside0.mk (below_then HB1.out HB1.out.size hb); clear hb)))
    go_ret
    exact ⟨rfl, HB2.out⟩
  | true =>
    by_cases hask : askE n l = 0
    · obtain ⟨hn, hl60, hok⟩ := askE_zero hask
      have hli : listE n l = 0 := by unfold askE at hask; rw [if_pos hn] at hask; exact hask
      rw [hli] at HLI
      obtain ⟨m, rfl⟩ : ∃ m : Nat, n = m := ⟨n.toNat, by omega⟩
      have h1 : ¬ (m : Int) < 1 := by omega
      have h2 : ¬ (m : Int) > 8 := by omega
      have h3 : ¬ 8 < (m : Int) := by omega
      have hshow : ∃ b g, showsE m L l = (b, g) ∧ (b = true → g = 0 ∧ ∃ t : BT, t.Good ∧ t.set = 2 ^ m - 1 ∧ l.all (showsT t) = true) := by
        refine ⟨(showsE m L l).1, (showsE m L l).2, rfl, fun h => ?_⟩
        obtain ⟨t, hp, hall, he⟩ := shows_sound h
        have hg := parseE_good hp
        rw [Int.toNat_natCast] at hg
        exact ⟨by rw [he], t, hg.2.2.1, hg.2.2.2, hall⟩
      obtain ⟨b, g, hsb, hbg⟩ := hshow
      rw [hsb] at HS1
      dsimp only at HS1
      rcases aho_case hask with ⟨t, hbt, htg, hts, hall, hpt, hkn⟩ | ⟨hbn, ⟨k, hkk, hk1, hk2, hk3, hkj⟩, hno⟩
      · have hbe : buildE m l = (strB t.text, 0) := by unfold buildE; rw [if_pos hask, Int.toNat_natCast, hbt]
        have hke : knotE m l = (0, 10) := by unfold knotE; rw [if_pos hask, Int.toNat_natCast, hkn]
        have hst : showsE m t.text l = (true, 0) := by unfold showsE; rw [hpt]; dsimp only; rw [if_pos hli, hall]
        rw [hbe] at HBD
        rw [hke] at HKN
        have HS2 := Aside0.mk (fun w hb => HSH.out t.text w hb)
        have HI2 := Aside0.mk (fun w hb => HIT.out t.text w hb)
        rw [hst] at HS2
        rw [hpt] at HI2
        dsimp only at HBD HKN HS2
        clear hbe hke hst hbt htg hts hall hpt hkn HSH HIT hsb hask hok hli
        generalize strB t.text = sb at HBD HS2 HI2
        cases b with
        | true =>
          obtain ⟨rfl, _⟩ := hbg rfl
          clear hbg
          go_enter Tryd.func8, Tryd.ntmps8
          go_wp2_with (first
          | (go_at_call 16; go_must (refine HFW.out.mono ?_; rintro e w1 ⟨rfl, hb⟩; have HB1 := Aside0.mk hb; clear hb))
          | (go_at_call 17; go_must (refine (HBD.out _ HB1.out).mono ?_; rintro e w2 ⟨rfl, hb⟩; have HB2 := Aside0.mk (below_then HB1.out HB1.out.size hb); clear hb))
          | (go_at_call 19; go_must (refine (HKN.out _ HB2.out).mono ?_; rintro e w3 ⟨rfl, hb⟩; have HB3 := Aside0.mk (below_then HB2.out HB2.out.size hb); clear hb))
          | (go_at_call 30; go_must (refine (HLI.out _ HB3.out).mono ?_; rintro e w5 ⟨rfl, hb⟩; have HB5 := Aside0.mk (below_then HB3.out HB3.out.size hb); clear hb))
          | (go_at_call 28; refine (HS1.out _ HB5.out).mono ?_; rintro e w6 ⟨rfl, hb⟩; have HB6 := Aside0.mk (below_then HB5.out HB5.out.size hb); clear hb HS1)
          | (go_at_call 28; refine (HS2.out _ HB6.out).mono ?_; rintro e w7 ⟨rfl, hb⟩; have HB7 := Aside0.mk (below_then HB6.out HB6.out.size hb); clear hb)
          | (go_at_call 32; go_must (refine (HI2.out _ HB7.out).mono ?_; rintro e w8 ⟨rfl, hb⟩; have HB8 := Aside0.mk (below_then HB7.out HB7.out.size hb); clear hb))
          | (go_at_call 15; go_must (refine (HAL.out _ HB8.out).mono ?_; rintro e w4 ⟨rfl, hb⟩; have HB4 := Aside0.mk (below_then HB8.out HB8.out.size hb); clear hb)))
          go_ret
          exact ⟨rfl, HB4.out⟩
        | false =>
          clear hbg
          go_enter Tryd.func8, Tryd.ntmps8
          go_wp2_with (first
          | (go_at_call 16; go_must (refine HFW.out.mono ?_; rintro e w1 ⟨rfl, hb⟩; have HB1 := Aside0.mk hb; clear hb))
          | (go_at_call 17; go_must (refine (HBD.out _ HB1.out).mono ?_; rintro e w2 ⟨rfl, hb⟩; have HB2 := Aside0.mk (below_then HB1.out HB1.out.size hb); clear hb))
          | (go_at_call 19; go_must (refine (HKN.out _ HB2.out).mono ?_; rintro e w3 ⟨rfl, hb⟩; have HB3 := Aside0.mk (below_then HB2.out HB2.out.size hb); clear hb))
          | (go_at_call 30; go_must (refine (HLI.out _ HB3.out).mono ?_; rintro e w5 ⟨rfl, hb⟩; have HB5 := Aside0.mk (below_then HB3.out HB3.out.size hb); clear hb))
          | (go_at_call 28; refine (HS1.out _ HB5.out).mono ?_; rintro e w6 ⟨rfl, hb⟩; have HB6 := Aside0.mk (below_then HB5.out HB5.out.size hb); clear hb HS1)
          | (go_at_call 28; refine (HS2.out _ HB6.out).mono ?_; rintro e w7 ⟨rfl, hb⟩; have HB7 := Aside0.mk (below_then HB6.out HB6.out.size hb); clear hb)
          | (go_at_call 32; go_must (refine (HI2.out _ HB7.out).mono ?_; rintro e w8 ⟨rfl, hb⟩; have HB8 := Aside0.mk (below_then HB7.out HB7.out.size hb); clear hb))
          | (go_at_call 15; go_must (refine (HAL.out _ HB8.out).mono ?_; rintro e w4 ⟨rfl, hb⟩; have HB4 := Aside0.mk (below_then HB8.out HB8.out.size hb); clear hb)))
          go_ret
          exact ⟨rfl, HB4.out⟩
      · have hbe : buildE m l = (⟨#[]⟩, 10) := by unfold buildE; rw [if_pos hask, Int.toNat_natCast, hbn]
        have hke : knotE m l = ((k : Int), 0) := by unfold knotE; rw [if_pos hask, Int.toNat_natCast, hkk]
        have hbf : b = false := by
          cases b with
          | false => rfl
          | true =>
            obtain ⟨_, t, h1, h2, h3⟩ := hbg rfl
            rw [hno t h1 h2] at h3; cases h3
        have hje : joinE m l (k : Int) = ([(k : Int)], 0) := by
          unfold joinE
          rw [if_pos hask, Int.toNat_natCast, Int.toNat_natCast, if_pos (by omega), hkj]
        have HJ2 := Aside0.mk (fun w hb => HJO.out (k : Int) w hb)
        rw [hje] at HJ2
        rw [hbe] at HBD
        rw [hke] at HKN
        dsimp only at HBD HKN
        subst hbf
        have hp2 := pow_256 (show m ≤ 8 by omega)
        have hk8 : k < 256 := by omega
        have hand := and_cast (a := k) (b := k - 1) hk8 (by omega)
        have hkz : (((k &&& (k - 1) : Nat) : Int) != 0) = true := by rw [bne_iff_ne]; omega
        rw [show ((k - 1 : Nat) : Int) = (k : Int) - 1 by omega] at hand
        have HJ3 : Aside0 (∀ w, Below W.heap.size W w → Calls Tryd.prog 21 #[.int .i64 m, .slice A len c, .int .i64 k] w fun e w' => ∃ ad cap, e = .returned (.tuple #[.slice (some ad) 1 cap, .int .i64 0]) ∧ w'.cell? ad = some (.int .i64 (k : Int)) ∧ Below w.heap.size w w') := ⟨fun w hb => (HJ2.out w hb).mono (by
          rintro e w' ⟨v, rfl, hR, hb⟩
          obtain ⟨A', cap, rfl, _, hC⟩ := Kd.R_reads hR
          obtain ⟨g7, cap7, hv7, _⟩ := Kd.R_form hR (by simp)
          cases hv7
          obtain ⟨ad, had, hx⟩ := Kd.at_int hC 0 (by decide) (by simp)
          cases had
          exact ⟨⟨g7, 0, none⟩, cap, rfl, hx, hb⟩)⟩
        clear hbe hke hje hbn hno hkk hkj hbg HSH HIT HJO HJ2 hsb hask hok hli hk1 hk2 hk3 hp2
        generalize ((k &&& (k - 1) : Nat) : Int) = ka at hand hkz
        go_enter Tryd.func8, Tryd.ntmps8
        go_wp2_with (first
          | (go_at_call 16; go_must (refine HFW.out.mono ?_; rintro e w1 ⟨rfl, hb⟩; have HB1 := Aside0.mk hb; clear hb))
          | (go_at_call 17; go_must (refine (HBD.out _ HB1.out).mono ?_; rintro e w2 ⟨rfl, hb⟩; have HB2 := Aside0.mk (below_then HB1.out HB1.out.size hb); clear hb))
          | (go_at_call 19; go_must (refine (HKN.out _ HB2.out).mono ?_; rintro e w3 ⟨rfl, hb⟩; have HB3 := Aside0.mk (below_then HB2.out HB2.out.size hb); clear hb))
          | (go_at_call 30; go_must (refine (HLI.out _ HB3.out).mono ?_; rintro e w5 ⟨rfl, hb⟩; have HB5 := Aside0.mk (below_then HB3.out HB3.out.size hb); clear hb))
          | (go_at_call 28; go_must (refine (HS1.out _ HB5.out).mono ?_; rintro e w6 ⟨rfl, hb⟩; have HB6 := Aside0.mk (below_then HB5.out HB5.out.size hb); clear hb))
          | (go_at_call 21; go_must (refine (HJ3.out _ HB6.out).mono ?_; rintro e w7 ⟨ad, cap, rfl, hx7, hb⟩; have HB7 := Aside0.mk (below_then HB6.out HB6.out.size hb); clear hb))
          | (go_at_call 15; go_must (refine (HAL.out _ HB7.out).mono ?_; rintro e w4 ⟨rfl, hb⟩; have HB4 := Aside0.mk (below_then HB7.out HB7.out.size hb); clear hb)))
        go_ret
        exact ⟨rfl, HB4.out⟩
    · have hbe : buildE n l = (⟨#[]⟩, askE n l) := by unfold buildE; rw [if_neg hask]
      have hke : knotE n l = (0, askE n l) := by unfold knotE; rw [if_neg hask]
      rw [hbe] at HBD
      rw [hke] at HKN
      dsimp only at HBD HKN
      obtain ⟨e1, e2⟩ := errne hask
      have hcase : (¬ n < 1 ∧ ¬ n > 8 → listE n l ≠ 0) := fun ⟨h1, h2⟩ h => hask (by unfold askE; rw [if_pos (by omega)]; exact h)
      clear hbe hke hask
      generalize askE n l = E at *
      generalize listE n l = LE at *
      by_cases h1 : n < 1
      · clear hcase
        go_enter Tryd.func8, Tryd.ntmps8
        go_wp2_with (first
          | (go_at_call 16; go_must (refine HFW.out.mono ?_; rintro e w1 ⟨rfl, hb⟩; have HB1 := Aside0.mk hb; clear hb))
          | (go_at_call 17; go_must (refine (HBD.out _ HB1.out).mono ?_; rintro e w2 ⟨rfl, hb⟩; have HB2 := Aside0.mk (below_then HB1.out HB1.out.size hb); clear hb))
          | (go_at_call 19; go_must (refine (HKN.out _ HB2.out).mono ?_; rintro e w3 ⟨rfl, hb⟩; have HB3 := Aside0.mk (below_then HB2.out HB2.out.size hb); clear hb))
          | (go_at_call 15; go_must (refine (HAL.out _ HB3.out).mono ?_; rintro e w4 ⟨rfl, hb⟩; have HB4 := Aside0.mk (below_then HB3.out HB3.out.size hb); clear hb)))
        go_ret
        exact ⟨rfl, HB4.out⟩
      · by_cases h2 : n > 8
        · have h3 : 8 < n := h2
          clear hcase
          go_enter Tryd.func8, Tryd.ntmps8
          go_wp2_with (first
            | (go_at_call 16; go_must (refine HFW.out.mono ?_; rintro e w1 ⟨rfl, hb⟩; have HB1 := Aside0.mk hb; clear hb))
            | (go_at_call 17; go_must (refine (HBD.out _ HB1.out).mono ?_; rintro e w2 ⟨rfl, hb⟩; have HB2 := Aside0.mk (below_then HB1.out HB1.out.size hb); clear hb))
            | (go_at_call 19; go_must (refine (HKN.out _ HB2.out).mono ?_; rintro e w3 ⟨rfl, hb⟩; have HB3 := Aside0.mk (below_then HB2.out HB2.out.size hb); clear hb))
            | (go_at_call 15; go_must (refine (HAL.out _ HB3.out).mono ?_; rintro e w4 ⟨rfl, hb⟩; have HB4 := Aside0.mk (below_then HB3.out HB3.out.size hb); clear hb)))
          go_ret
          exact ⟨rfl, HB4.out⟩
        · have h3 : ¬ 8 < n := h2
          obtain ⟨e3, e4⟩ := errne (hcase ⟨h1, h2⟩)
          clear hcase
          go_enter Tryd.func8, Tryd.ntmps8
          go_wp2_with (first
            | (go_at_call 16; go_must (refine HFW.out.mono ?_; rintro e w1 ⟨rfl, hb⟩; have HB1 := Aside0.mk hb; clear hb))
            | (go_at_call 17; go_must (refine (HBD.out _ HB1.out).mono ?_; rintro e w2 ⟨rfl, hb⟩; have HB2 := Aside0.mk (below_then HB1.out HB1.out.size hb); clear hb))
            | (go_at_call 19; go_must (refine (HKN.out _ HB2.out).mono ?_; rintro e w3 ⟨rfl, hb⟩; have HB3 := Aside0.mk (below_then HB2.out HB2.out.size hb); clear hb))
            | (go_at_call 30; go_must (refine (HLI.out _ HB3.out).mono ?_; rintro e w5 ⟨rfl, hb⟩; have HB5 := Aside0.mk (below_then HB3.out HB3.out.size hb); clear hb))
            | (go_at_call 15; go_must (refine (HAL.out _ HB5.out).mono ?_; rintro e w4 ⟨rfl, hb⟩; have HB4 := Aside0.mk (below_then HB5.out HB5.out.size hb); clear hb)))
          go_ret
          exact ⟨rfl, HB4.out⟩
end Go.Proofs.YtdbbcngmnpejnaaDoor.B

/- BreedMore, walked: it returns true. (Printed by gen_e5.py.) -/
namespace Go.Proofs.YtdbbcngmnpejnaaDoor.B
open Go.Proofs.YtdbbcngmnpejnaaDoor.A
open Go.RowKit Go.Proofs.YtdbbcngmnpejnaaDoorW.PrintWords Go.Proofs.YtdbbcngmnpejnaaDoorW.PrintMore

set_option linter.unusedSimpArgs false
theorem listE_ok {n : Int} {l : List S44} (h1 : l.length ≤ 60) (h2 : ∀ t ∈ l, okTri n t = true) : listE n l = 0 := by
  unfold listE
  rw [if_neg (by omega), if_pos (List.all_eq_true.mpr h2)]
theorem askE_ok {n : Int} {l : List S44} (h : 1 ≤ n ∧ n ≤ 8) (h2 : listE n l = 0) : askE n l = 0 := by
  unfold askE
  rw [if_pos h, h2]
theorem list_snoc {n : Int} {l : List S44} {x : S44} (h0 : listE n l = 0) (hl : l.length < 60) (hx : okTri n x = true) : listE n (l ++ [x]) = 0 := by
  obtain ⟨_, hok⟩ := listE_zero h0
  refine listE_ok (by rw [List.length_append, List.length_singleton]; omega) fun t ht => ?_
  rcases List.mem_append.mp ht with h | h
  · exact hok t h
  · rw [List.mem_singleton.mp h]; exact hx
theorem list_one {n : Int} {x : S44} (hx : okTri n x = true) : listE n [x] = 0 := listE_ok (by simp) fun t ht => by rw [List.mem_singleton.mp ht]; exact hx
theorem shows_less {n : Int} {L : List UInt8} {l : List S44} {x : S44} (h0 : listE n l = 0) (h1 : listE n (l ++ [x]) = 0) : ∃ g a b, showsE n L (l ++ [x]) = (a, g) ∧ showsE n L l = (b, g) ∧ ((a = false) ∨ (a = true ∧ b = true)) := by
  unfold showsE
  cases parseE n L with
  | none => exact ⟨_, _, _, rfl, rfl, .inl rfl⟩
  | some t =>
    dsimp only
    rw [if_pos h0, if_pos h1]
    refine ⟨_, _, _, rfl, rfl, ?_⟩
    cases h : (l ++ [x]).all (showsT t) with
    | false => exact .inl rfl
    | true =>
      rw [List.all_append, Bool.and_eq_true] at h
      exact .inr ⟨rfl, h.1⟩
theorem reps_one44 (x0 x1 x2 : Int) {W : World} {b : Nat} {ok : Nat → Prop} : Reps (k44.M W b ok) k44.sz [(⟨x0, x1, x2⟩ : S44)] [.int .i64 x0, .int .i64 x1, .int .i64 x2] := by
  refine ⟨rfl, fun j q hq => ?_⟩
  cases j with
  | zero =>
    cases hq
    exact k44_mkM W b ok ⟨x0, x1, x2⟩
  | succ j => simp at hq
theorem below_undrew {w w' : World} (h : Below w.heap.size w.drew w') : Below w.heap.size w w' := ⟨h.os, h.tape, h.output, h.size, h.block⟩
theorem own_ne {α : Type} {d : Kd α} {e base : Nat} {ok : Nat → Prop} {w : World} {v u : Value} {xs : List α} (h : d.R e w base ok v xs) (hn : ∃ b, u.ownBlock = some b ∧ w.heap.size ≤ b) : ∀ k, v.ownBlock = some k → some k ≠ u.ownBlock := fun k hk e => by
  obtain ⟨cs, h2⟩ := Kd.R_typed h k hk
  obtain ⟨b, hb, hl⟩ := hn
  rw [hb] at e
  cases e
  have := YtdbbcngmnpejnaaDoorW.PrintWords.blk_lt h2
  omega
/-- What Build and Shows answer, with one triple more. -/
theorem more_case {m : Nat} {l : List S44} {x : S44} (h : askE m l = 0) (hl : l.length < 60) (hx : okTri m x = true) :
    (∃ L M i, buildE m l = (strB L, 0) ∧ buildE m (l ++ [x]) = (strB M, 0) ∧ showsE m M l = (true, 0) ∧ showsE m L [x] = (i, 0)) ∨
    (∃ L, buildE m l = (strB L, 0) ∧ buildE m (l ++ [x]) = (⟨#[]⟩, 10) ∧ showsE m L [x] = (false, 0)) ∨
    (buildE m l = (⟨#[]⟩, 10) ∧ buildE m (l ++ [x]) = (⟨#[]⟩, 10)) := by
  have hn := (askE_zero h).1
  have hli : listE m l = 0 := by unfold askE at h; rwa [if_pos hn] at h
  have hls := list_snoc hli hl hx
  have h2 : askE m (l ++ [x]) = 0 := askE_ok hn hls
  have bn : ∀ l : List S44, askE m l = 0 → buildF l 9 (2 ^ m - 1) = none → buildE m l = (⟨#[]⟩, 10) := fun l h hb => by unfold buildE; rw [if_pos h, Int.toNat_natCast, hb]
  have bs : ∀ (l : List S44) t, askE m l = 0 → buildF l 9 (2 ^ m - 1) = some t → buildE m l = (strB t.text, 0) := fun l t h hb => by unfold buildE; rw [if_pos h, Int.toNat_natCast, hb]
  have sh : ∀ (l : List S44) (t : BT), listE m l = 0 → parseE m t.text = some t → showsE m t.text l = (l.all (showsT t), 0) := fun l t h hp => by unfold showsE; rw [hp]; dsimp only; rw [if_pos h]
  rcases aho_case h with ⟨t, hb, hg, hs, hall, hp, _⟩ | ⟨hb, _, hno⟩
  · rcases aho_case h2 with ⟨t2, hb2, _, _, hall2, hp2, _⟩ | ⟨hb2, _, hno2⟩
    · refine .inl ⟨_, _, _, bs _ _ h hb, bs _ _ h2 hb2, ?_, sh _ _ (list_one hx) hp⟩
      rw [sh _ _ hli hp2]
      rw [List.all_append, Bool.and_eq_true] at hall2
      rw [hall2.1]
    · refine .inr (.inl ⟨_, bs _ _ h hb, bn _ h2 hb2, ?_⟩)
      rw [sh _ _ (list_one hx) hp]
      have h3 := hno2 t hg hs
      rw [List.all_append, hall, Bool.true_and] at h3
      rw [h3]
  · rcases aho_case h2 with ⟨t2, hb2, hg2, hs2, hall2, _, _⟩ | ⟨hb2, _, _⟩
    · exfalso
      have h3 := hno t2 hg2 hs2
      rw [List.all_append, Bool.and_eq_true, h3] at hall2
      exact Bool.false_ne_true hall2.1
    · exact .inr (.inr ⟨bn _ h hb, bn _ h2 hb2⟩)

set_option maxRecDepth 100000 in
set_option maxHeartbeats 12800000 in
theorem more_any (n : Int) (A : Option Addr) (c : Nat) (l : List S44) (x : S44) (s : ByteArray) (W : World) (hr : Kd.C k44 W A l.length l) (hc : l.length ≤ c) (hT : TabAt W) :
    Calls Tryd.prog 7 #[.int .i64 n, .slice A l.length c, enc44 x, .string s] W fun e w' => e = .returned (.bool true) ∧ Below W.heap.size W w' := by
  obtain ⟨L, hLs, _⟩ := strB_of s
  have HT := Aside0.mk hT
  have HR := Aside0.mk hr
  have HC := Aside0.mk hc
  have HFW : Aside0 (∀ w, Below W.heap.size W w → Calls Tryd.prog 16 #[.slice none 0 0, .string s] w fun e w' => e = .returned (.bool (decide (s.size ≤ 100))) ∧ Below w.heap.size w w') := ⟨fun w _ => by
    have h := few_calls none 0 [] s w (Kd.C_nil k44 w) (Nat.le_refl _)
    rw [show decide (([] : List S44).length ≤ 100 ∧ s.size ≤ 100) = decide (s.size ≤ 100) by rw [decide_eq_decide]; simp] at h
    exact h⟩
  have HAL : Aside0 (∀ w, Below W.heap.size W w → Calls Tryd.prog 15 #[] w fun e w' => e = .returned (.bool true) ∧ Below w.heap.size w w') := ⟨fun w hb => alive_calls w (HT.out.next hb)⟩
  have HLI : Aside0 (∀ w, Below W.heap.size W w → Calls Tryd.prog 30 #[.int .i64 n, .slice A l.length c] w fun e w' => e = .returned (.int .i64 (listE n l)) ∧ Below w.heap.size w w') := ⟨fun w hb => List_calls n A c l w (Kd.C_below HR.out hb) hc⟩
  have HTR : Aside0 (∀ w, Below W.heap.size W w → Calls Tryd.prog 31 #[.int .i64 n, enc44 x] w fun e w' => e = .returned (.bool (okTri n x)) ∧ Below w.heap.size w w') := ⟨fun w hb => IsTriple_calls n x w⟩
  have HBD : Aside0 (∀ (y : List S44) w A' c', Below W.heap.size W w → y.length ≤ c' → Kd.C k44 w A' y.length y → Calls Tryd.prog 17 #[.int .i64 n, .slice A' y.length c'] w fun e w' => e = .returned (.tuple #[.string (buildE n y).1, .int .i64 (buildE n y).2]) ∧ Below w.heap.size w w') := ⟨fun y w A' c' hb hc' hC => Build_calls n A' c' y w hC hc' (HT.out.next hb)⟩
  have HSH : Aside0 (∀ (L : List UInt8) (y : List S44) w A' c', Below W.heap.size W w → y.length ≤ c' → Kd.C k44 w A' y.length y → Calls Tryd.prog 28 #[.int .i64 n, .string (strB L), .slice A' y.length c'] w fun e w' => e = .returned (.tuple #[.bool (showsE n L y).1, .int .i64 (showsE n L y).2]) ∧ Below w.heap.size w w') := ⟨fun L y w A' c' hb hc' hC => Shows_calls n L A' c' y w hC hc' (HT.out.next hb)⟩
  have HLX : Aside0 (l ++ [x] = l ++ [x]) := ⟨rfl⟩
  by_cases hmain : l.length < 60 ∧ s.size ≤ 100 ∧ ¬ n < 1 ∧ ¬ n > 8 ∧ listE n l = 0 ∧ okTri n x = true
  · obtain ⟨m1, m2, m3, m4, m5, m6⟩ := hmain
    obtain ⟨m, rfl⟩ : ∃ m : Nat, n = m := ⟨n.toNat, by omega⟩
    have hls := list_snoc m5 m1 m6
    have HMC := Aside0.mk (more_case (askE_ok (by omega) m5) m1 m6)
    have HSL := Aside0.mk (shows_less (L := L) m5 hls)
    rw [decide_eq_true m2] at HFW
    rw [m5] at HLI
    rw [m6] at HTR
    have m7 : ¬ 8 < (m : Int) := by omega
    have m8 : (l.length : Int) < 60 := by omega
    have HSS : Aside0 (∀ (y : List S44) w A' c', Below W.heap.size W w → y.length ≤ c' → Kd.C k44 w A' y.length y → Calls Tryd.prog 28 #[.int .i64 m, .string s, .slice A' y.length c'] w fun e w' => e = .returned (.tuple #[.bool (showsE m L y).1, .int .i64 (showsE m L y).2]) ∧ Below w.heap.size w w') := ⟨fun y w A' c' hb hc' hC => by have := HSH.out L y w A' c' hb hc' hC; rwa [hLs] at this⟩
    clear hr hc hT hls m2 m5 m6 hLs
    have hl60 := m1
    clear m1
    obtain ⟨y, hy⟩ : ∃ y, l ++ [x] = y := ⟨_, rfl⟩
    have HY := Aside0.mk hy
    have hyl : y.length = l.length + 1 := by rw [← hy, List.length_append, List.length_singleton]
    have HYL := Aside0.mk hyl
    clear HLX
    rw [hy] at HMC HSL
    clear hy hyl
    obtain ⟨x0, x1, x2⟩ := x
    unfold enc44 at HTR ⊢
    dsimp only at HTR ⊢
    go_enter Tryd.func7, Tryd.ntmps7
    go_upto_region 1 with fail
    have HNEW : Aside0 ((W.alloc (.cells #[.int .i64 x0, .int .i64 x1, .int .i64 x2] 44)).heap[W.heap.size]? = some (.cells #[.int .i64 x0, .int .i64 x1, .int .i64 x2] 44 (0, 0))) := ⟨heap_alloc_new W _⟩
    have HB : Aside0 (Below W.heap.size W (W.alloc (.cells #[.int .i64 x0, .int .i64 x1, .int .i64 x2] 44))) := ⟨(Below.refl _ _).alloc (Nat.le_refl _) _⟩
    generalize W.alloc (.cells #[.int .i64 x0, .int .i64 x1, .int .i64 x2] 44) = w4 at HNEW HB ⊢
    generalize hgb : W.heap.size = gb at HNEW ⊢
    have HGB := Aside0.mk hgb
    clear hgb
    obtain ⟨d0, d1, d2, _⟩ := cells3 HNEW.out
    go_upto_region 3 with (first
      | (go_at_call 16; go_must (refine (HFW.out _ HB.out).mono ?_; rintro e w1 ⟨rfl, hb⟩; replace HNEW := Aside0.mk ((hb.block gb (YtdbbcngmnpejnaaDoorW.PrintWords.blk_lt HNEW.out)).trans HNEW.out); replace HB := Aside0.mk (below_then HB.out HB.out.size hb); clear hb d0 d1 d2; obtain ⟨d0, d1, d2, _⟩ := cells3 HNEW.out))
      | (go_at_call 30; go_must (refine (HLI.out _ HB.out).mono ?_; rintro e w1 ⟨rfl, hb⟩; replace HNEW := Aside0.mk ((hb.block gb (YtdbbcngmnpejnaaDoorW.PrintWords.blk_lt HNEW.out)).trans HNEW.out); replace HB := Aside0.mk (below_then HB.out HB.out.size hb); clear hb d0 d1 d2; obtain ⟨d0, d1, d2, _⟩ := cells3 HNEW.out))
      | (go_at_call 31; go_must (refine (HTR.out _ HB.out).mono ?_; rintro e wq ⟨rfl, hb⟩; replace HNEW := Aside0.mk ((hb.block gb (YtdbbcngmnpejnaaDoorW.PrintWords.blk_lt HNEW.out)).trans HNEW.out); replace HB := Aside0.mk (below_then HB.out HB.out.size hb); clear hb d0 d1 d2; obtain ⟨d0, d1, d2, _⟩ := cells3 HNEW.out)))
    have HGL : Aside0 (gb < wq.heap.size) := ⟨YtdbbcngmnpejnaaDoorW.PrintWords.blk_lt HNEW.out⟩
    refine wp_region_noPanic ?_
    refine wp_region_held_drew (S := fun w' => w'.cell? ⟨gb, 0, none⟩ = some (.int .i64 x0) ∧ w'.cell? ⟨gb, 1, none⟩ = some (.int .i64 x1) ∧ w'.cell? ⟨gb, 2, none⟩ = some (.int .i64 x2)) (by kernel_rfl) (⟨d0, d1, d2⟩) (fun hHeld => ?_)
    refine H_on 1 52 ?vm1 rfl rfl (by kernel_rfl) (by kernel_rfl) (by kernel_rfl) (by rfl) ?hm1 hHeld ?rm1
    case hm1 => (intro w hSw; obtain ⟨s0, s1, s2⟩ := hSw; go_simp <;> with_reducible rfl)
    simp only [Act.put, List.setIfInBounds_toArray, List.set_cons_zero, List.set_cons_succ]
    refine H_on 3 54 ?vm3 rfl rfl (by kernel_rfl) (by kernel_rfl) (by kernel_rfl) (by rfl) ?hm3 hHeld ?rm3
    case hm3 => (intro w hSw; obtain ⟨s0, s1, s2⟩ := hSw; go_simp <;> with_reducible rfl)
    simp only [Act.put, List.setIfInBounds_toArray, List.set_cons_zero, List.set_cons_succ]
    refine wpAnyH_ready (rs := [0, 4]) (by kernel_rfl) (by simp) ?_
    refine AllReadyH.cons rfl (fun K hK => ?_) (AllReadyH.cons rfl (fun K hK => ?_) AllReadyH.nil)
    refine Kd.R_lit_step k44 (w0 := wq.drew) wq.heap.size 44 (by kernel_rfl) (N := 51) rfl (xs := ([] : List S44)) (inner := []) (ok := fun _ => True) (okp := fun _ => True) ?hR1 (Reps.none _ _) (fun _ hk => hk) trivial (Below.refl wq.heap.size wq.drew) (Below.refl wq.heap.size wq.drew).size (by simp) ?_
    case hR1 => first | (go_simp; done) | (go_simp; rfl)
    intro v1 wa ho hb hg hn
    have HO1 := Aside0.mk ho
    have HBA := Aside0.mk hb
    clear ho hb hg hn
    refine hK.out _ _ ((let h := cells3 ((HBA.out.block gb HGL.out).trans HNEW.out); ⟨h.1, h.2.1, h.2.2.1⟩)) (fun hHeld => ?_)
    clear hK K
    try simp only [Act.put, List.setIfInBounds_toArray, List.set_cons_zero, List.set_cons_succ]
    refine wpAnyH_ready (rs := [2, 4]) (by kernel_rfl) (by simp) ?_
    refine AllReadyH.cons rfl (fun K hK => ?_) (AllReadyH.cons rfl (fun K hK => ?_) AllReadyH.nil)
    refine Kd.R_append_rows_step k44 (Rr := k44.K wa) (w0 := wq.drew) wq.heap.size (by kernel_rfl) (.tmp 51) (.tmp 52) 27 44 _ _ rfl Tryd.underlying27 info44 rfl (by decide) (by decide) v1 [] l A l.length c (fun _ => True) (fun _ => False) rfl rfl HO1.out (Kd.C_below HR.out (below_then HB.out HB.out.size (below_undrew (HBA.out)))) (fun _ _ h => h) (fun _ hk => hk.elim) (fun _ _ => trivial) (HBA.out) (HBA.out).size (by simp <;> omega) ?_
    intro v2 wb ho hb hg _
    rw [List.nil_append] at ho
    have HO2 := Aside0.mk ho
    have HBA := Aside0.mk hb
    clear ho hb hg HO1
    refine hK.out _ _ ((let h := cells3 ((HBA.out.block gb HGL.out).trans HNEW.out); ⟨h.1, h.2.1, h.2.2.1⟩)) (fun hHeld => ?_)
    clear hK K
    try simp only [Act.put, List.setIfInBounds_toArray, List.set_cons_zero, List.set_cons_succ]
    refine wpAnyH_ready (rs := [4]) (by kernel_rfl) (by simp) ?_
    refine AllReadyH.cons rfl (fun K hK => ?_) AllReadyH.nil
    refine Kd.R_lit_step k44 (w0 := wq.drew) wq.heap.size 44 (by kernel_rfl) (N := 55) rfl (xs := [(⟨x0, x1, x2⟩ : S44)]) (inner := [.int .i64 x0, .int .i64 x1, .int .i64 x2]) (ok := fun _ => True) (okp := fun _ => True) ?hR2 (reps_one44 x0 x1 x2) (fun _ hk => hk) trivial (HBA.out) (HBA.out).size (by simp) ?_
    case hR2 => first | (go_simp; done) | (go_simp; rfl)
    intro v4 wc ho hb hg hn
    have HO4 := Aside0.mk ho
    replace HO2 := Aside0.mk (Kd.R_grown HO2.out hg (fun _ _ h => by cases h))
    have HBA := Aside0.mk hb
    clear ho hb hg hn
    refine hK.out _ _ ((let h := cells3 ((HBA.out.block gb HGL.out).trans HNEW.out); ⟨h.1, h.2.1, h.2.2.1⟩)) (fun hHeld => ?_)
    clear hK K
    try simp only [Act.put, List.setIfInBounds_toArray, List.set_cons_zero, List.set_cons_succ]
    refine wpAnyH_ready (rs := [5]) (by kernel_rfl) (by simp) ?_
    refine AllReadyH.cons rfl (fun K hK => ?_) AllReadyH.nil
    obtain ⟨A4, c4, hv4, hc4, hC4⟩ := Kd.R_reads HO4.out
    subst hv4
    refine Kd.R_append_rows_step k44 (Rr := k44.K wc) (w0 := wq.drew) wq.heap.size (by kernel_rfl) (.tmp 53) (.tmp 55) 27 44 _ _ rfl Tryd.underlying27 info44 rfl (by decide) (by decide) v2 l [(⟨x0, x1, x2⟩ : S44)] A4 1 c4 (fun _ => True) (fun _ => False) rfl rfl HO2.out hC4 (fun _ _ h => h) (fun _ hk => hk.elim) (fun _ _ => trivial) HBA.out HBA.out.size (by omega) ?_
    intro v5 wy ho5 hb5 _ _
    rw [HY.out] at ho5
    obtain ⟨Ay, cy, hvy, hcy, hCy⟩ := Kd.R_reads ho5
    subst hvy
    have HCy := Aside0.mk hCy
    have HCCy := Aside0.mk hcy
    have HBY := Aside0.mk hb5
    clear ho5 hb5 hCy hcy hC4 hc4 HO2 HO4 HBA
    refine hK.out _ _ ((let h := cells3 ((HBY.out.block gb HGL.out).trans HNEW.out); ⟨h.1, h.2.1, h.2.2.1⟩)) (fun hHeld => ?_)
    clear hK K
    try simp only [Act.put, List.setIfInBounds_toArray, List.set_cons_zero, List.set_cons_succ]
    refine H_on 6 9 ?vZa rfl rfl (by kernel_rfl) (by kernel_rfl) (by kernel_rfl) (by rfl) ?hZa hHeld ?rZa
    case hZa => (intro w hSw; obtain ⟨s0, s1, s2⟩ := hSw; go_simp <;> with_reducible rfl)
    simp only [Act.put, List.setIfInBounds_toArray, List.set_cons_zero, List.set_cons_succ]
    refine wpAnyH_done (by kernel_rfl) ?_ _
    refine NoPanic.normal ?_
    clear hHeld
    have BASE : Aside0 (Below W.heap.size W wy) := ⟨below_then HB.out HB.out.size (below_undrew HBY.out)⟩
    replace HNEW := Aside0.mk ((HBY.out.block gb HGL.out).trans HNEW.out)
    clear d0 d1 d2 HB HBY HGL
    rotate_left
    refine Kd.R_lit_step k44 (w0 := wq.drew) wq.heap.size 44 (by kernel_rfl) (N := 55) rfl (xs := [(⟨x0, x1, x2⟩ : S44)]) (inner := [.int .i64 x0, .int .i64 x1, .int .i64 x2]) (ok := fun _ => True) (okp := fun _ => True) ?hR3 (reps_one44 x0 x1 x2) (fun _ hk => hk) trivial (HBA.out) (HBA.out).size (by simp) ?_
    case hR3 => first | (go_simp; done) | (go_simp; rfl)
    intro v4 wb ho hb hg hn
    have HO4 := Aside0.mk ho
    have HNE : Aside0 (∀ k, v1.ownBlock = some k → some k ≠ v4.ownBlock) := ⟨own_ne HO1.out hn⟩
    replace HO1 := Aside0.mk (Kd.R_grown HO1.out hg (fun _ _ h => by cases h))
    have HBA := Aside0.mk hb
    clear ho hb hg hn
    refine hK.out _ _ ((let h := cells3 ((HBA.out.block gb HGL.out).trans HNEW.out); ⟨h.1, h.2.1, h.2.2.1⟩)) (fun hHeld => ?_)
    clear hK K
    try simp only [Act.put, List.setIfInBounds_toArray, List.set_cons_zero, List.set_cons_succ]
    refine wpAnyH_ready (rs := [2]) (by kernel_rfl) (by simp) ?_
    refine AllReadyH.cons rfl (fun K hK => ?_) AllReadyH.nil
    refine Kd.R_append_rows_step k44 (Rr := k44.K wb) (w0 := wq.drew) wq.heap.size (by kernel_rfl) (.tmp 51) (.tmp 52) 27 44 _ _ rfl Tryd.underlying27 info44 rfl (by decide) (by decide) v1 [] l A l.length c (fun _ => True) (fun _ => False) rfl rfl HO1.out (Kd.C_below HR.out (below_then HB.out HB.out.size (below_undrew (HBA.out)))) (fun _ _ h => h) (fun _ hk => hk.elim) (fun _ _ => trivial) (HBA.out) (HBA.out).size (by simp <;> omega) ?_
    intro v2 wc ho hb hg _
    rw [List.nil_append] at ho
    have HO2 := Aside0.mk ho
    replace HO4 := Aside0.mk (Kd.R_grown2 HO4.out rfl hg HNE.out)
    have HBA := Aside0.mk hb
    clear ho hb hg HO1
    refine hK.out _ _ ((let h := cells3 ((HBA.out.block gb HGL.out).trans HNEW.out); ⟨h.1, h.2.1, h.2.2.1⟩)) (fun hHeld => ?_)
    clear hK K
    try simp only [Act.put, List.setIfInBounds_toArray, List.set_cons_zero, List.set_cons_succ]
    refine wpAnyH_ready (rs := [5]) (by kernel_rfl) (by simp) ?_
    refine AllReadyH.cons rfl (fun K hK => ?_) AllReadyH.nil
    obtain ⟨A4, c4, hv4, hc4, hC4⟩ := Kd.R_reads HO4.out
    subst hv4
    refine Kd.R_append_rows_step k44 (Rr := k44.K wc) (w0 := wq.drew) wq.heap.size (by kernel_rfl) (.tmp 53) (.tmp 55) 27 44 _ _ rfl Tryd.underlying27 info44 rfl (by decide) (by decide) v2 l [(⟨x0, x1, x2⟩ : S44)] A4 1 c4 (fun _ => True) (fun _ => False) rfl rfl HO2.out hC4 (fun _ _ h => h) (fun _ hk => hk.elim) (fun _ _ => trivial) HBA.out HBA.out.size (by omega) ?_
    intro v5 wy ho5 hb5 _ _
    rw [HY.out] at ho5
    obtain ⟨Ay, cy, hvy, hcy, hCy⟩ := Kd.R_reads ho5
    subst hvy
    have HCy := Aside0.mk hCy
    have HCCy := Aside0.mk hcy
    have HBY := Aside0.mk hb5
    clear ho5 hb5 hCy hcy hC4 hc4 HO2 HO4 HBA
    refine hK.out _ _ ((let h := cells3 ((HBY.out.block gb HGL.out).trans HNEW.out); ⟨h.1, h.2.1, h.2.2.1⟩)) (fun hHeld => ?_)
    clear hK K
    try simp only [Act.put, List.setIfInBounds_toArray, List.set_cons_zero, List.set_cons_succ]
    refine H_on 6 9 ?vZb rfl rfl (by kernel_rfl) (by kernel_rfl) (by kernel_rfl) (by rfl) ?hZb hHeld ?rZb
    case hZb => (intro w hSw; obtain ⟨s0, s1, s2⟩ := hSw; go_simp <;> with_reducible rfl)
    simp only [Act.put, List.setIfInBounds_toArray, List.set_cons_zero, List.set_cons_succ]
    refine wpAnyH_done (by kernel_rfl) ?_ _
    refine NoPanic.normal ?_
    clear hHeld
    have BASE : Aside0 (Below W.heap.size W wy) := ⟨below_then HB.out HB.out.size (below_undrew HBY.out)⟩
    replace HNEW := Aside0.mk ((HBY.out.block gb HGL.out).trans HNEW.out)
    clear d0 d1 d2 HB HBY HGL
    rotate_left
    refine Kd.R_lit_step k44 (w0 := wq.drew) wq.heap.size 44 (by kernel_rfl) (N := 55) rfl (xs := [(⟨x0, x1, x2⟩ : S44)]) (inner := [.int .i64 x0, .int .i64 x1, .int .i64 x2]) (ok := fun _ => True) (okp := fun _ => True) ?hR4 (reps_one44 x0 x1 x2) (fun _ hk => hk) trivial (Below.refl wq.heap.size wq.drew) (Below.refl wq.heap.size wq.drew).size (by simp) ?_
    case hR4 => first | (go_simp; done) | (go_simp; rfl)
    intro v4 wa ho hb hg hn
    have HO4 := Aside0.mk ho
    have HBA := Aside0.mk hb
    clear ho hb hg hn
    refine hK.out _ _ ((let h := cells3 ((HBA.out.block gb HGL.out).trans HNEW.out); ⟨h.1, h.2.1, h.2.2.1⟩)) (fun hHeld => ?_)
    clear hK K
    try simp only [Act.put, List.setIfInBounds_toArray, List.set_cons_zero, List.set_cons_succ]
    refine wpAnyH_ready (rs := [0]) (by kernel_rfl) (by simp) ?_
    refine AllReadyH.cons rfl (fun K hK => ?_) AllReadyH.nil
    refine Kd.R_lit_step k44 (w0 := wq.drew) wq.heap.size 44 (by kernel_rfl) (N := 51) rfl (xs := ([] : List S44)) (inner := []) (ok := fun _ => True) (okp := fun _ => True) ?hR5 (Reps.none _ _) (fun _ hk => hk) trivial (HBA.out) (HBA.out).size (by simp) ?_
    case hR5 => first | (go_simp; done) | (go_simp; rfl)
    intro v1 wb ho hb hg hn
    have HO1 := Aside0.mk ho
    have HNE : Aside0 (∀ k, v1.ownBlock = some k → some k ≠ v4.ownBlock) := ⟨fun k hk e => own_ne HO4.out hn k e.symm hk.symm⟩
    replace HO4 := Aside0.mk (Kd.R_grown HO4.out hg (fun _ _ h => by cases h))
    have HBA := Aside0.mk hb
    clear ho hb hg hn
    refine hK.out _ _ ((let h := cells3 ((HBA.out.block gb HGL.out).trans HNEW.out); ⟨h.1, h.2.1, h.2.2.1⟩)) (fun hHeld => ?_)
    clear hK K
    try simp only [Act.put, List.setIfInBounds_toArray, List.set_cons_zero, List.set_cons_succ]
    refine wpAnyH_ready (rs := [2]) (by kernel_rfl) (by simp) ?_
    refine AllReadyH.cons rfl (fun K hK => ?_) AllReadyH.nil
    refine Kd.R_append_rows_step k44 (Rr := k44.K wb) (w0 := wq.drew) wq.heap.size (by kernel_rfl) (.tmp 51) (.tmp 52) 27 44 _ _ rfl Tryd.underlying27 info44 rfl (by decide) (by decide) v1 [] l A l.length c (fun _ => True) (fun _ => False) rfl rfl HO1.out (Kd.C_below HR.out (below_then HB.out HB.out.size (below_undrew (HBA.out)))) (fun _ _ h => h) (fun _ hk => hk.elim) (fun _ _ => trivial) (HBA.out) (HBA.out).size (by simp <;> omega) ?_
    intro v2 wc ho hb hg _
    rw [List.nil_append] at ho
    have HO2 := Aside0.mk ho
    replace HO4 := Aside0.mk (Kd.R_grown2 HO4.out rfl hg HNE.out)
    have HBA := Aside0.mk hb
    clear ho hb hg HO1
    refine hK.out _ _ ((let h := cells3 ((HBA.out.block gb HGL.out).trans HNEW.out); ⟨h.1, h.2.1, h.2.2.1⟩)) (fun hHeld => ?_)
    clear hK K
    try simp only [Act.put, List.setIfInBounds_toArray, List.set_cons_zero, List.set_cons_succ]
    refine wpAnyH_ready (rs := [5]) (by kernel_rfl) (by simp) ?_
    refine AllReadyH.cons rfl (fun K hK => ?_) AllReadyH.nil
    obtain ⟨A4, c4, hv4, hc4, hC4⟩ := Kd.R_reads HO4.out
    subst hv4
    refine Kd.R_append_rows_step k44 (Rr := k44.K wc) (w0 := wq.drew) wq.heap.size (by kernel_rfl) (.tmp 53) (.tmp 55) 27 44 _ _ rfl Tryd.underlying27 info44 rfl (by decide) (by decide) v2 l [(⟨x0, x1, x2⟩ : S44)] A4 1 c4 (fun _ => True) (fun _ => False) rfl rfl HO2.out hC4 (fun _ _ h => h) (fun _ hk => hk.elim) (fun _ _ => trivial) HBA.out HBA.out.size (by omega) ?_
    intro v5 wy ho5 hb5 _ _
    rw [HY.out] at ho5
    obtain ⟨Ay, cy, hvy, hcy, hCy⟩ := Kd.R_reads ho5
    subst hvy
    have HCy := Aside0.mk hCy
    have HCCy := Aside0.mk hcy
    have HBY := Aside0.mk hb5
    clear ho5 hb5 hCy hcy hC4 hc4 HO2 HO4 HBA
    refine hK.out _ _ ((let h := cells3 ((HBY.out.block gb HGL.out).trans HNEW.out); ⟨h.1, h.2.1, h.2.2.1⟩)) (fun hHeld => ?_)
    clear hK K
    try simp only [Act.put, List.setIfInBounds_toArray, List.set_cons_zero, List.set_cons_succ]
    refine H_on 6 9 ?vZc rfl rfl (by kernel_rfl) (by kernel_rfl) (by kernel_rfl) (by rfl) ?hZc hHeld ?rZc
    case hZc => (intro w hSw; obtain ⟨s0, s1, s2⟩ := hSw; go_simp <;> with_reducible rfl)
    simp only [Act.put, List.setIfInBounds_toArray, List.set_cons_zero, List.set_cons_succ]
    refine wpAnyH_done (by kernel_rfl) ?_ _
    refine NoPanic.normal ?_
    clear hHeld
    have BASE : Aside0 (Below W.heap.size W wy) := ⟨below_then HB.out HB.out.size (below_undrew HBY.out)⟩
    replace HNEW := Aside0.mk ((HBY.out.block gb HGL.out).trans HNEW.out)
    clear d0 d1 d2 HB HBY HGL
    rotate_left
    all_goals
      have HB : Aside0 (Below wy.heap.size wy wy) := ⟨Below.refl _ _⟩
      obtain ⟨d0, d1, d2, _⟩ := cells3 HNEW.out
      have HX : Aside0 (∀ w, Below wy.heap.size wy w → Calls Tryd.prog 28 #[.int .i64 m, .string s, .slice Ay y.length cy] w fun e w' => e = .returned (.tuple #[.bool (showsE m L y).1, .int .i64 (showsE m L y).2]) ∧ Below w.heap.size w w') := ⟨fun w hb => HSS.out y w Ay cy (below_then BASE.out BASE.out.size hb) HCCy.out (Kd.C_below HCy.out hb)⟩
      have HXL : Aside0 (∀ w, Below W.heap.size W w → Calls Tryd.prog 28 #[.int .i64 m, .string s, .slice A l.length c] w fun e w' => e = .returned (.tuple #[.bool (showsE m L l).1, .int .i64 (showsE m L l).2]) ∧ Below w.heap.size w w') := ⟨fun w hb => HSS.out l w A c hb HC.out (Kd.C_below HR.out hb)⟩
      have HBL : Aside0 (∀ w, Below W.heap.size W w → Calls Tryd.prog 17 #[.int .i64 m, .slice A l.length c] w fun e w' => e = .returned (.tuple #[.string (buildE m l).1, .int .i64 (buildE m l).2]) ∧ Below w.heap.size w w') := ⟨fun w hb => HBD.out l w A c hb HC.out (Kd.C_below HR.out hb)⟩
      have HBY : Aside0 (∀ w, Below wy.heap.size wy w → Calls Tryd.prog 17 #[.int .i64 m, .slice Ay y.length cy] w fun e w' => e = .returned (.tuple #[.string (buildE m y).1, .int .i64 (buildE m y).2]) ∧ Below w.heap.size w w') := ⟨fun w hb => HBD.out y w Ay cy (below_then BASE.out BASE.out.size hb) HCCy.out (Kd.C_below HCy.out hb)⟩
      obtain ⟨g, xa, yb, e1, e2, hxy⟩ := HSL.out
      rw [e1] at HX
      rw [e2] at HXL
      dsimp only at HX HXL
      clear e1 e2 HSL
      rcases HMC.out with ⟨Lb, Mb, i, q1, q2, q3, q4⟩ | ⟨Lb, q1, q2, q3⟩ | ⟨q1, q2⟩
      · rw [q1] at HBL
        rw [q2] at HBY
        dsimp only at HBL HBY
        have HS1 : Aside0 (∀ w, Below W.heap.size W w → Calls Tryd.prog 28 #[.int .i64 m, .string (strB Mb), .slice A l.length c] w fun e w' => e = .returned (.tuple #[.bool true, .int .i64 0]) ∧ Below w.heap.size w w') := ⟨fun w hb => by have := HSH.out Mb l w A c hb HC.out (Kd.C_below HR.out hb); rwa [q3] at this⟩
        have HS2 : Aside0 (∀ w A' c', Below W.heap.size W w → 1 ≤ c' → Kd.C k44 w A' 1 [(⟨x0, x1, x2⟩ : S44)] → Calls Tryd.prog 28 #[.int .i64 m, .string (strB Lb), .slice A' 1 c'] w fun e w' => e = .returned (.tuple #[.bool i, .int .i64 0]) ∧ Below w.heap.size w w') := ⟨fun w A' c' hb hc' hC => by have := HSH.out Lb [⟨x0, x1, x2⟩] w A' c' hb hc' hC; rwa [q4] at this⟩
        generalize strB Lb = sa at HBL HS2
        generalize strB Mb = sb at HBY HS1
        clear q1 q2 q3 q4 HMC HSH HSS HBD HFW HLI HTR
        rcases hxy with rfl | ⟨rfl, rfl⟩ <;> cases i
        all_goals
          go_wp2_with (first
          | (go_at_call 17; first
            | ((with_reducible refine (HBL.out _ (below_then BASE.out BASE.out.size HB.out)).mono ?_); rintro e w1 ⟨rfl, hb⟩; replace HNEW := Aside0.mk ((hb.block gb (YtdbbcngmnpejnaaDoorW.PrintWords.blk_lt HNEW.out)).trans HNEW.out); replace HB := Aside0.mk (HB.out.trans (hb.mono HB.out.size)); clear hb d0 d1 d2; obtain ⟨d0, d1, d2, _⟩ := cells3 HNEW.out)
            | ((with_reducible refine (HBY.out _ HB.out).mono ?_); rintro e w1 ⟨rfl, hb⟩; replace HNEW := Aside0.mk ((hb.block gb (YtdbbcngmnpejnaaDoorW.PrintWords.blk_lt HNEW.out)).trans HNEW.out); replace HB := Aside0.mk (HB.out.trans (hb.mono HB.out.size)); clear hb d0 d1 d2; obtain ⟨d0, d1, d2, _⟩ := cells3 HNEW.out))
          | ((with_reducible refine gate_dst (N := 94) rfl ?_); refine Kd.R_lit k44 _ 44 ?hg (N := 94) ?hd (xs := [(⟨x0, x1, x2⟩ : S44)]) (inner := [.int .i64 x0, .int .i64 x1, .int .i64 x2]) (ok := fun _ => True) (okp := fun _ => True) ?hr ?hp (fun _ hk => hk) trivial (Below.refl _ _) (Nat.le_refl _) (by simp) ?_; (case hd => rfl); (case hg => rfl); (case hr => first | (go_simp; done) | (go_simp; rfl)); (case hp => exact (reps_one44 x0 x1 x2)); intro v7 w7 ho7 hb7 _ _; (obtain ⟨A7, c7, hv7, hc7, hC7⟩ := Kd.R_reads ho7); subst hv7; have HC7 : Aside0 (Kd.C k44 w7 A7 1 [(⟨x0, x1, x2⟩ : S44)]) := ⟨hC7⟩; have HCC7 : Aside0 (1 ≤ c7) := ⟨hc7⟩; have hb := hb7; clear ho7 hb7 hC7 hc7; replace HNEW := Aside0.mk ((hb.block gb (YtdbbcngmnpejnaaDoorW.PrintWords.blk_lt HNEW.out)).trans HNEW.out); replace HB := Aside0.mk (HB.out.trans (hb.mono HB.out.size)); clear hb d0 d1 d2; obtain ⟨d0, d1, d2, _⟩ := cells3 HNEW.out)
          | (go_at_call 28; first
            | ((with_reducible refine (HXL.out _ (below_then BASE.out BASE.out.size HB.out)).mono ?_); rintro e w1 ⟨rfl, hb⟩; replace HNEW := Aside0.mk ((hb.block gb (YtdbbcngmnpejnaaDoorW.PrintWords.blk_lt HNEW.out)).trans HNEW.out); replace HB := Aside0.mk (HB.out.trans (hb.mono HB.out.size)); clear hb d0 d1 d2; obtain ⟨d0, d1, d2, _⟩ := cells3 HNEW.out)
            | ((with_reducible refine (HX.out _ HB.out).mono ?_); rintro e w1 ⟨rfl, hb⟩; replace HNEW := Aside0.mk ((hb.block gb (YtdbbcngmnpejnaaDoorW.PrintWords.blk_lt HNEW.out)).trans HNEW.out); replace HB := Aside0.mk (HB.out.trans (hb.mono HB.out.size)); clear hb d0 d1 d2; obtain ⟨d0, d1, d2, _⟩ := cells3 HNEW.out)
            | ((with_reducible refine (HS1.out _ (below_then BASE.out BASE.out.size HB.out)).mono ?_); rintro e w1 ⟨rfl, hb⟩; replace HNEW := Aside0.mk ((hb.block gb (YtdbbcngmnpejnaaDoorW.PrintWords.blk_lt HNEW.out)).trans HNEW.out); replace HB := Aside0.mk (HB.out.trans (hb.mono HB.out.size)); clear hb d0 d1 d2; obtain ⟨d0, d1, d2, _⟩ := cells3 HNEW.out)
            | ((with_reducible refine (HS2.out _ A7 c7 (below_then BASE.out BASE.out.size HB.out) HCC7.out HC7.out).mono ?_); rintro e w1 ⟨rfl, hb⟩; replace HNEW := Aside0.mk ((hb.block gb (YtdbbcngmnpejnaaDoorW.PrintWords.blk_lt HNEW.out)).trans HNEW.out); replace HB := Aside0.mk (HB.out.trans (hb.mono HB.out.size)); clear hb d0 d1 d2; obtain ⟨d0, d1, d2, _⟩ := cells3 HNEW.out))
          | (go_at_call 15; go_must (refine (HAL.out _ (below_then BASE.out BASE.out.size HB.out)).mono ?_; rintro e w1 ⟨rfl, hb⟩; replace HNEW := Aside0.mk ((hb.block gb (YtdbbcngmnpejnaaDoorW.PrintWords.blk_lt HNEW.out)).trans HNEW.out); replace HB := Aside0.mk (HB.out.trans (hb.mono HB.out.size)); clear hb d0 d1 d2; obtain ⟨d0, d1, d2, _⟩ := cells3 HNEW.out)))
          go_ret
          exact ⟨rfl, by first | (rw [← HGB.out]; exact (below_then BASE.out BASE.out.size HB.out)) | exact (below_then BASE.out BASE.out.size HB.out)⟩
      · rw [q1] at HBL
        rw [q2] at HBY
        dsimp only at HBL HBY
        have HS2 : Aside0 (∀ w A' c', Below W.heap.size W w → 1 ≤ c' → Kd.C k44 w A' 1 [(⟨x0, x1, x2⟩ : S44)] → Calls Tryd.prog 28 #[.int .i64 m, .string (strB Lb), .slice A' 1 c'] w fun e w' => e = .returned (.tuple #[.bool false, .int .i64 0]) ∧ Below w.heap.size w w') := ⟨fun w A' c' hb hc' hC => by have := HSH.out Lb [⟨x0, x1, x2⟩] w A' c' hb hc' hC; rwa [q3] at this⟩
        generalize strB Lb = sa at HBL HS2
        clear q1 q2 q3 HMC HSH HSS HBD HFW HLI HTR
        rcases hxy with rfl | ⟨rfl, rfl⟩
        all_goals
          go_wp2_with (first
          | (go_at_call 17; first
            | ((with_reducible refine (HBL.out _ (below_then BASE.out BASE.out.size HB.out)).mono ?_); rintro e w1 ⟨rfl, hb⟩; replace HNEW := Aside0.mk ((hb.block gb (YtdbbcngmnpejnaaDoorW.PrintWords.blk_lt HNEW.out)).trans HNEW.out); replace HB := Aside0.mk (HB.out.trans (hb.mono HB.out.size)); clear hb d0 d1 d2; obtain ⟨d0, d1, d2, _⟩ := cells3 HNEW.out)
            | ((with_reducible refine (HBY.out _ HB.out).mono ?_); rintro e w1 ⟨rfl, hb⟩; replace HNEW := Aside0.mk ((hb.block gb (YtdbbcngmnpejnaaDoorW.PrintWords.blk_lt HNEW.out)).trans HNEW.out); replace HB := Aside0.mk (HB.out.trans (hb.mono HB.out.size)); clear hb d0 d1 d2; obtain ⟨d0, d1, d2, _⟩ := cells3 HNEW.out))
          | ((with_reducible refine gate_dst (N := 94) rfl ?_); refine Kd.R_lit k44 _ 44 ?hg (N := 94) ?hd (xs := [(⟨x0, x1, x2⟩ : S44)]) (inner := [.int .i64 x0, .int .i64 x1, .int .i64 x2]) (ok := fun _ => True) (okp := fun _ => True) ?hr ?hp (fun _ hk => hk) trivial (Below.refl _ _) (Nat.le_refl _) (by simp) ?_; (case hd => rfl); (case hg => rfl); (case hr => first | (go_simp; done) | (go_simp; rfl)); (case hp => exact (reps_one44 x0 x1 x2)); intro v7 w7 ho7 hb7 _ _; (obtain ⟨A7, c7, hv7, hc7, hC7⟩ := Kd.R_reads ho7); subst hv7; have HC7 : Aside0 (Kd.C k44 w7 A7 1 [(⟨x0, x1, x2⟩ : S44)]) := ⟨hC7⟩; have HCC7 : Aside0 (1 ≤ c7) := ⟨hc7⟩; have hb := hb7; clear ho7 hb7 hC7 hc7; replace HNEW := Aside0.mk ((hb.block gb (YtdbbcngmnpejnaaDoorW.PrintWords.blk_lt HNEW.out)).trans HNEW.out); replace HB := Aside0.mk (HB.out.trans (hb.mono HB.out.size)); clear hb d0 d1 d2; obtain ⟨d0, d1, d2, _⟩ := cells3 HNEW.out)
          | (go_at_call 28; first
            | ((with_reducible refine (HXL.out _ (below_then BASE.out BASE.out.size HB.out)).mono ?_); rintro e w1 ⟨rfl, hb⟩; replace HNEW := Aside0.mk ((hb.block gb (YtdbbcngmnpejnaaDoorW.PrintWords.blk_lt HNEW.out)).trans HNEW.out); replace HB := Aside0.mk (HB.out.trans (hb.mono HB.out.size)); clear hb d0 d1 d2; obtain ⟨d0, d1, d2, _⟩ := cells3 HNEW.out)
            | ((with_reducible refine (HX.out _ HB.out).mono ?_); rintro e w1 ⟨rfl, hb⟩; replace HNEW := Aside0.mk ((hb.block gb (YtdbbcngmnpejnaaDoorW.PrintWords.blk_lt HNEW.out)).trans HNEW.out); replace HB := Aside0.mk (HB.out.trans (hb.mono HB.out.size)); clear hb d0 d1 d2; obtain ⟨d0, d1, d2, _⟩ := cells3 HNEW.out)
            | ((with_reducible refine (HS1.out _ (below_then BASE.out BASE.out.size HB.out)).mono ?_); rintro e w1 ⟨rfl, hb⟩; replace HNEW := Aside0.mk ((hb.block gb (YtdbbcngmnpejnaaDoorW.PrintWords.blk_lt HNEW.out)).trans HNEW.out); replace HB := Aside0.mk (HB.out.trans (hb.mono HB.out.size)); clear hb d0 d1 d2; obtain ⟨d0, d1, d2, _⟩ := cells3 HNEW.out)
            | ((with_reducible refine (HS2.out _ A7 c7 (below_then BASE.out BASE.out.size HB.out) HCC7.out HC7.out).mono ?_); rintro e w1 ⟨rfl, hb⟩; replace HNEW := Aside0.mk ((hb.block gb (YtdbbcngmnpejnaaDoorW.PrintWords.blk_lt HNEW.out)).trans HNEW.out); replace HB := Aside0.mk (HB.out.trans (hb.mono HB.out.size)); clear hb d0 d1 d2; obtain ⟨d0, d1, d2, _⟩ := cells3 HNEW.out))
          | (go_at_call 15; go_must (refine (HAL.out _ (below_then BASE.out BASE.out.size HB.out)).mono ?_; rintro e w1 ⟨rfl, hb⟩; replace HNEW := Aside0.mk ((hb.block gb (YtdbbcngmnpejnaaDoorW.PrintWords.blk_lt HNEW.out)).trans HNEW.out); replace HB := Aside0.mk (HB.out.trans (hb.mono HB.out.size)); clear hb d0 d1 d2; obtain ⟨d0, d1, d2, _⟩ := cells3 HNEW.out)))
          go_ret
          exact ⟨rfl, by first | (rw [← HGB.out]; exact (below_then BASE.out BASE.out.size HB.out)) | exact (below_then BASE.out BASE.out.size HB.out)⟩
      · rw [q1] at HBL
        rw [q2] at HBY
        dsimp only at HBL HBY
        clear q1 q2 HMC HSH HSS HBD HFW HLI HTR
        rcases hxy with rfl | ⟨rfl, rfl⟩
        all_goals
          go_wp2_with (first
          | (go_at_call 17; first
            | ((with_reducible refine (HBL.out _ (below_then BASE.out BASE.out.size HB.out)).mono ?_); rintro e w1 ⟨rfl, hb⟩; replace HNEW := Aside0.mk ((hb.block gb (YtdbbcngmnpejnaaDoorW.PrintWords.blk_lt HNEW.out)).trans HNEW.out); replace HB := Aside0.mk (HB.out.trans (hb.mono HB.out.size)); clear hb d0 d1 d2; obtain ⟨d0, d1, d2, _⟩ := cells3 HNEW.out)
            | ((with_reducible refine (HBY.out _ HB.out).mono ?_); rintro e w1 ⟨rfl, hb⟩; replace HNEW := Aside0.mk ((hb.block gb (YtdbbcngmnpejnaaDoorW.PrintWords.blk_lt HNEW.out)).trans HNEW.out); replace HB := Aside0.mk (HB.out.trans (hb.mono HB.out.size)); clear hb d0 d1 d2; obtain ⟨d0, d1, d2, _⟩ := cells3 HNEW.out))
          | ((with_reducible refine gate_dst (N := 94) rfl ?_); refine Kd.R_lit k44 _ 44 ?hg (N := 94) ?hd (xs := [(⟨x0, x1, x2⟩ : S44)]) (inner := [.int .i64 x0, .int .i64 x1, .int .i64 x2]) (ok := fun _ => True) (okp := fun _ => True) ?hr ?hp (fun _ hk => hk) trivial (Below.refl _ _) (Nat.le_refl _) (by simp) ?_; (case hd => rfl); (case hg => rfl); (case hr => first | (go_simp; done) | (go_simp; rfl)); (case hp => exact (reps_one44 x0 x1 x2)); intro v7 w7 ho7 hb7 _ _; (obtain ⟨A7, c7, hv7, hc7, hC7⟩ := Kd.R_reads ho7); subst hv7; have HC7 : Aside0 (Kd.C k44 w7 A7 1 [(⟨x0, x1, x2⟩ : S44)]) := ⟨hC7⟩; have HCC7 : Aside0 (1 ≤ c7) := ⟨hc7⟩; have hb := hb7; clear ho7 hb7 hC7 hc7; replace HNEW := Aside0.mk ((hb.block gb (YtdbbcngmnpejnaaDoorW.PrintWords.blk_lt HNEW.out)).trans HNEW.out); replace HB := Aside0.mk (HB.out.trans (hb.mono HB.out.size)); clear hb d0 d1 d2; obtain ⟨d0, d1, d2, _⟩ := cells3 HNEW.out)
          | (go_at_call 28; first
            | ((with_reducible refine (HXL.out _ (below_then BASE.out BASE.out.size HB.out)).mono ?_); rintro e w1 ⟨rfl, hb⟩; replace HNEW := Aside0.mk ((hb.block gb (YtdbbcngmnpejnaaDoorW.PrintWords.blk_lt HNEW.out)).trans HNEW.out); replace HB := Aside0.mk (HB.out.trans (hb.mono HB.out.size)); clear hb d0 d1 d2; obtain ⟨d0, d1, d2, _⟩ := cells3 HNEW.out)
            | ((with_reducible refine (HX.out _ HB.out).mono ?_); rintro e w1 ⟨rfl, hb⟩; replace HNEW := Aside0.mk ((hb.block gb (YtdbbcngmnpejnaaDoorW.PrintWords.blk_lt HNEW.out)).trans HNEW.out); replace HB := Aside0.mk (HB.out.trans (hb.mono HB.out.size)); clear hb d0 d1 d2; obtain ⟨d0, d1, d2, _⟩ := cells3 HNEW.out)
            | ((with_reducible refine (HS1.out _ (below_then BASE.out BASE.out.size HB.out)).mono ?_); rintro e w1 ⟨rfl, hb⟩; replace HNEW := Aside0.mk ((hb.block gb (YtdbbcngmnpejnaaDoorW.PrintWords.blk_lt HNEW.out)).trans HNEW.out); replace HB := Aside0.mk (HB.out.trans (hb.mono HB.out.size)); clear hb d0 d1 d2; obtain ⟨d0, d1, d2, _⟩ := cells3 HNEW.out)
            | ((with_reducible refine (HS2.out _ A7 c7 (below_then BASE.out BASE.out.size HB.out) HCC7.out HC7.out).mono ?_); rintro e w1 ⟨rfl, hb⟩; replace HNEW := Aside0.mk ((hb.block gb (YtdbbcngmnpejnaaDoorW.PrintWords.blk_lt HNEW.out)).trans HNEW.out); replace HB := Aside0.mk (HB.out.trans (hb.mono HB.out.size)); clear hb d0 d1 d2; obtain ⟨d0, d1, d2, _⟩ := cells3 HNEW.out))
          | (go_at_call 15; go_must (refine (HAL.out _ (below_then BASE.out BASE.out.size HB.out)).mono ?_; rintro e w1 ⟨rfl, hb⟩; replace HNEW := Aside0.mk ((hb.block gb (YtdbbcngmnpejnaaDoorW.PrintWords.blk_lt HNEW.out)).trans HNEW.out); replace HB := Aside0.mk (HB.out.trans (hb.mono HB.out.size)); clear hb d0 d1 d2; obtain ⟨d0, d1, d2, _⟩ := cells3 HNEW.out)))
          go_ret
          exact ⟨rfl, by first | (rw [← HGB.out]; exact (below_then BASE.out BASE.out.size HB.out)) | exact (below_then BASE.out BASE.out.size HB.out)⟩
  · have HM := Aside0.mk hmain
    generalize listE n l = LE at HLI HM
    generalize okTri n x = OK at HTR HM
    generalize s.size = sz at HFW HM
    obtain ⟨x0, x1, x2⟩ := x
    unfold enc44 at HTR ⊢
    dsimp only at HTR ⊢
    clear hr hc hT hmain HBD HSH HLX hLs
    by_cases a1 : l.length < 60
    · have a1z : (l.length : Int) < 60 := by omega
      by_cases a2 : sz ≤ 100
      · rw [decide_eq_true a2] at HFW
        by_cases a3 : n < 1
        · clear HM
          go_enter Tryd.func7, Tryd.ntmps7
          go_upto_region 1 with fail
          have HNEW : Aside0 ((W.alloc (.cells #[.int .i64 x0, .int .i64 x1, .int .i64 x2] 44)).heap[W.heap.size]? = some (.cells #[.int .i64 x0, .int .i64 x1, .int .i64 x2] 44 (0, 0))) := ⟨heap_alloc_new W _⟩
          have HB : Aside0 (Below W.heap.size W (W.alloc (.cells #[.int .i64 x0, .int .i64 x1, .int .i64 x2] 44))) := ⟨(Below.refl _ _).alloc (Nat.le_refl _) _⟩
          generalize W.alloc (.cells #[.int .i64 x0, .int .i64 x1, .int .i64 x2] 44) = w4 at HNEW HB ⊢
          generalize hgb : W.heap.size = gb at HNEW ⊢
          have HGB := Aside0.mk hgb
          clear hgb
          obtain ⟨d0, d1, d2, _⟩ := cells3 HNEW.out
          go_wp2_with (first
            | (go_at_call 16; go_must (refine (HFW.out _ HB.out).mono ?_; rintro e w1 ⟨rfl, hb⟩; replace HNEW := Aside0.mk ((hb.block gb (YtdbbcngmnpejnaaDoorW.PrintWords.blk_lt HNEW.out)).trans HNEW.out); replace HB := Aside0.mk (below_then HB.out HB.out.size hb); clear hb d0 d1 d2; obtain ⟨d0, d1, d2, _⟩ := cells3 HNEW.out))
            | (go_at_call 30; go_must (refine (HLI.out _ HB.out).mono ?_; rintro e w1 ⟨rfl, hb⟩; replace HNEW := Aside0.mk ((hb.block gb (YtdbbcngmnpejnaaDoorW.PrintWords.blk_lt HNEW.out)).trans HNEW.out); replace HB := Aside0.mk (below_then HB.out HB.out.size hb); clear hb d0 d1 d2; obtain ⟨d0, d1, d2, _⟩ := cells3 HNEW.out))
            | (go_at_call 31; go_must (refine (HTR.out _ HB.out).mono ?_; rintro e wq ⟨rfl, hb⟩; replace HNEW := Aside0.mk ((hb.block gb (YtdbbcngmnpejnaaDoorW.PrintWords.blk_lt HNEW.out)).trans HNEW.out); replace HB := Aside0.mk (below_then HB.out HB.out.size hb); clear hb d0 d1 d2; obtain ⟨d0, d1, d2, _⟩ := cells3 HNEW.out))
            | (go_at_call 15; go_must (refine (HAL.out _ HB.out).mono ?_; rintro e wq ⟨rfl, hb⟩; replace HNEW := Aside0.mk ((hb.block gb (YtdbbcngmnpejnaaDoorW.PrintWords.blk_lt HNEW.out)).trans HNEW.out); replace HB := Aside0.mk (below_then HB.out HB.out.size hb); clear hb d0 d1 d2; obtain ⟨d0, d1, d2, _⟩ := cells3 HNEW.out)))
          go_ret
          exact ⟨rfl, by first | exact HB.out | (rw [← HGB.out]; exact HB.out)⟩
        · by_cases a4 : n > 8
          · have a5 : 8 < n := a4
            clear HM
            go_enter Tryd.func7, Tryd.ntmps7
            go_upto_region 1 with fail
            have HNEW : Aside0 ((W.alloc (.cells #[.int .i64 x0, .int .i64 x1, .int .i64 x2] 44)).heap[W.heap.size]? = some (.cells #[.int .i64 x0, .int .i64 x1, .int .i64 x2] 44 (0, 0))) := ⟨heap_alloc_new W _⟩
            have HB : Aside0 (Below W.heap.size W (W.alloc (.cells #[.int .i64 x0, .int .i64 x1, .int .i64 x2] 44))) := ⟨(Below.refl _ _).alloc (Nat.le_refl _) _⟩
            generalize W.alloc (.cells #[.int .i64 x0, .int .i64 x1, .int .i64 x2] 44) = w4 at HNEW HB ⊢
            generalize hgb : W.heap.size = gb at HNEW ⊢
            have HGB := Aside0.mk hgb
            clear hgb
            obtain ⟨d0, d1, d2, _⟩ := cells3 HNEW.out
            go_wp2_with (first
              | (go_at_call 16; go_must (refine (HFW.out _ HB.out).mono ?_; rintro e w1 ⟨rfl, hb⟩; replace HNEW := Aside0.mk ((hb.block gb (YtdbbcngmnpejnaaDoorW.PrintWords.blk_lt HNEW.out)).trans HNEW.out); replace HB := Aside0.mk (below_then HB.out HB.out.size hb); clear hb d0 d1 d2; obtain ⟨d0, d1, d2, _⟩ := cells3 HNEW.out))
              | (go_at_call 30; go_must (refine (HLI.out _ HB.out).mono ?_; rintro e w1 ⟨rfl, hb⟩; replace HNEW := Aside0.mk ((hb.block gb (YtdbbcngmnpejnaaDoorW.PrintWords.blk_lt HNEW.out)).trans HNEW.out); replace HB := Aside0.mk (below_then HB.out HB.out.size hb); clear hb d0 d1 d2; obtain ⟨d0, d1, d2, _⟩ := cells3 HNEW.out))
              | (go_at_call 31; go_must (refine (HTR.out _ HB.out).mono ?_; rintro e wq ⟨rfl, hb⟩; replace HNEW := Aside0.mk ((hb.block gb (YtdbbcngmnpejnaaDoorW.PrintWords.blk_lt HNEW.out)).trans HNEW.out); replace HB := Aside0.mk (below_then HB.out HB.out.size hb); clear hb d0 d1 d2; obtain ⟨d0, d1, d2, _⟩ := cells3 HNEW.out))
              | (go_at_call 15; go_must (refine (HAL.out _ HB.out).mono ?_; rintro e wq ⟨rfl, hb⟩; replace HNEW := Aside0.mk ((hb.block gb (YtdbbcngmnpejnaaDoorW.PrintWords.blk_lt HNEW.out)).trans HNEW.out); replace HB := Aside0.mk (below_then HB.out HB.out.size hb); clear hb d0 d1 d2; obtain ⟨d0, d1, d2, _⟩ := cells3 HNEW.out)))
            go_ret
            exact ⟨rfl, by first | exact HB.out | (rw [← HGB.out]; exact HB.out)⟩
          · have a5 : ¬ 8 < n := a4
            by_cases a6 : LE = 0
            · subst a6
              have a7 : OK = false := by
                cases OK with
                | false => rfl
                | true => exact absurd ⟨a1, a2, a3, a4, rfl, rfl⟩ HM.out
              subst a7
              clear HM
              go_enter Tryd.func7, Tryd.ntmps7
              go_upto_region 1 with fail
              have HNEW : Aside0 ((W.alloc (.cells #[.int .i64 x0, .int .i64 x1, .int .i64 x2] 44)).heap[W.heap.size]? = some (.cells #[.int .i64 x0, .int .i64 x1, .int .i64 x2] 44 (0, 0))) := ⟨heap_alloc_new W _⟩
              have HB : Aside0 (Below W.heap.size W (W.alloc (.cells #[.int .i64 x0, .int .i64 x1, .int .i64 x2] 44))) := ⟨(Below.refl _ _).alloc (Nat.le_refl _) _⟩
              generalize W.alloc (.cells #[.int .i64 x0, .int .i64 x1, .int .i64 x2] 44) = w4 at HNEW HB ⊢
              generalize hgb : W.heap.size = gb at HNEW ⊢
              have HGB := Aside0.mk hgb
              clear hgb
              obtain ⟨d0, d1, d2, _⟩ := cells3 HNEW.out
              go_wp2_with (first
                | (go_at_call 16; go_must (refine (HFW.out _ HB.out).mono ?_; rintro e w1 ⟨rfl, hb⟩; replace HNEW := Aside0.mk ((hb.block gb (YtdbbcngmnpejnaaDoorW.PrintWords.blk_lt HNEW.out)).trans HNEW.out); replace HB := Aside0.mk (below_then HB.out HB.out.size hb); clear hb d0 d1 d2; obtain ⟨d0, d1, d2, _⟩ := cells3 HNEW.out))
                | (go_at_call 30; go_must (refine (HLI.out _ HB.out).mono ?_; rintro e w1 ⟨rfl, hb⟩; replace HNEW := Aside0.mk ((hb.block gb (YtdbbcngmnpejnaaDoorW.PrintWords.blk_lt HNEW.out)).trans HNEW.out); replace HB := Aside0.mk (below_then HB.out HB.out.size hb); clear hb d0 d1 d2; obtain ⟨d0, d1, d2, _⟩ := cells3 HNEW.out))
                | (go_at_call 31; go_must (refine (HTR.out _ HB.out).mono ?_; rintro e wq ⟨rfl, hb⟩; replace HNEW := Aside0.mk ((hb.block gb (YtdbbcngmnpejnaaDoorW.PrintWords.blk_lt HNEW.out)).trans HNEW.out); replace HB := Aside0.mk (below_then HB.out HB.out.size hb); clear hb d0 d1 d2; obtain ⟨d0, d1, d2, _⟩ := cells3 HNEW.out))
                | (go_at_call 15; go_must (refine (HAL.out _ HB.out).mono ?_; rintro e wq ⟨rfl, hb⟩; replace HNEW := Aside0.mk ((hb.block gb (YtdbbcngmnpejnaaDoorW.PrintWords.blk_lt HNEW.out)).trans HNEW.out); replace HB := Aside0.mk (below_then HB.out HB.out.size hb); clear hb d0 d1 d2; obtain ⟨d0, d1, d2, _⟩ := cells3 HNEW.out)))
              go_ret
              exact ⟨rfl, by first | exact HB.out | (rw [← HGB.out]; exact HB.out)⟩
            · obtain ⟨e1, e2⟩ := errne a6
              clear HM a6
              go_enter Tryd.func7, Tryd.ntmps7
              go_upto_region 1 with fail
              have HNEW : Aside0 ((W.alloc (.cells #[.int .i64 x0, .int .i64 x1, .int .i64 x2] 44)).heap[W.heap.size]? = some (.cells #[.int .i64 x0, .int .i64 x1, .int .i64 x2] 44 (0, 0))) := ⟨heap_alloc_new W _⟩
              have HB : Aside0 (Below W.heap.size W (W.alloc (.cells #[.int .i64 x0, .int .i64 x1, .int .i64 x2] 44))) := ⟨(Below.refl _ _).alloc (Nat.le_refl _) _⟩
              generalize W.alloc (.cells #[.int .i64 x0, .int .i64 x1, .int .i64 x2] 44) = w4 at HNEW HB ⊢
              generalize hgb : W.heap.size = gb at HNEW ⊢
              have HGB := Aside0.mk hgb
              clear hgb
              obtain ⟨d0, d1, d2, _⟩ := cells3 HNEW.out
              go_wp2_with (first
                | (go_at_call 16; go_must (refine (HFW.out _ HB.out).mono ?_; rintro e w1 ⟨rfl, hb⟩; replace HNEW := Aside0.mk ((hb.block gb (YtdbbcngmnpejnaaDoorW.PrintWords.blk_lt HNEW.out)).trans HNEW.out); replace HB := Aside0.mk (below_then HB.out HB.out.size hb); clear hb d0 d1 d2; obtain ⟨d0, d1, d2, _⟩ := cells3 HNEW.out))
                | (go_at_call 30; go_must (refine (HLI.out _ HB.out).mono ?_; rintro e w1 ⟨rfl, hb⟩; replace HNEW := Aside0.mk ((hb.block gb (YtdbbcngmnpejnaaDoorW.PrintWords.blk_lt HNEW.out)).trans HNEW.out); replace HB := Aside0.mk (below_then HB.out HB.out.size hb); clear hb d0 d1 d2; obtain ⟨d0, d1, d2, _⟩ := cells3 HNEW.out))
                | (go_at_call 31; go_must (refine (HTR.out _ HB.out).mono ?_; rintro e wq ⟨rfl, hb⟩; replace HNEW := Aside0.mk ((hb.block gb (YtdbbcngmnpejnaaDoorW.PrintWords.blk_lt HNEW.out)).trans HNEW.out); replace HB := Aside0.mk (below_then HB.out HB.out.size hb); clear hb d0 d1 d2; obtain ⟨d0, d1, d2, _⟩ := cells3 HNEW.out))
                | (go_at_call 15; go_must (refine (HAL.out _ HB.out).mono ?_; rintro e wq ⟨rfl, hb⟩; replace HNEW := Aside0.mk ((hb.block gb (YtdbbcngmnpejnaaDoorW.PrintWords.blk_lt HNEW.out)).trans HNEW.out); replace HB := Aside0.mk (below_then HB.out HB.out.size hb); clear hb d0 d1 d2; obtain ⟨d0, d1, d2, _⟩ := cells3 HNEW.out)))
              go_ret
              exact ⟨rfl, by first | exact HB.out | (rw [← HGB.out]; exact HB.out)⟩
      · rw [decide_eq_false a2] at HFW
        clear HM
        go_enter Tryd.func7, Tryd.ntmps7
        go_upto_region 1 with fail
        have HNEW : Aside0 ((W.alloc (.cells #[.int .i64 x0, .int .i64 x1, .int .i64 x2] 44)).heap[W.heap.size]? = some (.cells #[.int .i64 x0, .int .i64 x1, .int .i64 x2] 44 (0, 0))) := ⟨heap_alloc_new W _⟩
        have HB : Aside0 (Below W.heap.size W (W.alloc (.cells #[.int .i64 x0, .int .i64 x1, .int .i64 x2] 44))) := ⟨(Below.refl _ _).alloc (Nat.le_refl _) _⟩
        generalize W.alloc (.cells #[.int .i64 x0, .int .i64 x1, .int .i64 x2] 44) = w4 at HNEW HB ⊢
        generalize hgb : W.heap.size = gb at HNEW ⊢
        have HGB := Aside0.mk hgb
        clear hgb
        obtain ⟨d0, d1, d2, _⟩ := cells3 HNEW.out
        go_wp2_with (first
          | (go_at_call 16; go_must (refine (HFW.out _ HB.out).mono ?_; rintro e w1 ⟨rfl, hb⟩; replace HNEW := Aside0.mk ((hb.block gb (YtdbbcngmnpejnaaDoorW.PrintWords.blk_lt HNEW.out)).trans HNEW.out); replace HB := Aside0.mk (below_then HB.out HB.out.size hb); clear hb d0 d1 d2; obtain ⟨d0, d1, d2, _⟩ := cells3 HNEW.out))
          | (go_at_call 30; go_must (refine (HLI.out _ HB.out).mono ?_; rintro e w1 ⟨rfl, hb⟩; replace HNEW := Aside0.mk ((hb.block gb (YtdbbcngmnpejnaaDoorW.PrintWords.blk_lt HNEW.out)).trans HNEW.out); replace HB := Aside0.mk (below_then HB.out HB.out.size hb); clear hb d0 d1 d2; obtain ⟨d0, d1, d2, _⟩ := cells3 HNEW.out))
          | (go_at_call 31; go_must (refine (HTR.out _ HB.out).mono ?_; rintro e wq ⟨rfl, hb⟩; replace HNEW := Aside0.mk ((hb.block gb (YtdbbcngmnpejnaaDoorW.PrintWords.blk_lt HNEW.out)).trans HNEW.out); replace HB := Aside0.mk (below_then HB.out HB.out.size hb); clear hb d0 d1 d2; obtain ⟨d0, d1, d2, _⟩ := cells3 HNEW.out))
          | (go_at_call 15; go_must (refine (HAL.out _ HB.out).mono ?_; rintro e wq ⟨rfl, hb⟩; replace HNEW := Aside0.mk ((hb.block gb (YtdbbcngmnpejnaaDoorW.PrintWords.blk_lt HNEW.out)).trans HNEW.out); replace HB := Aside0.mk (below_then HB.out HB.out.size hb); clear hb d0 d1 d2; obtain ⟨d0, d1, d2, _⟩ := cells3 HNEW.out)))
        go_ret
        exact ⟨rfl, by first | exact HB.out | (rw [← HGB.out]; exact HB.out)⟩
    · have a1z : ¬ (l.length : Int) < 60 := by omega
      have a1y : (l.length : Int) ≥ 60 := by omega
      clear HM
      go_enter Tryd.func7, Tryd.ntmps7
      go_upto_region 1 with fail
      have HNEW : Aside0 ((W.alloc (.cells #[.int .i64 x0, .int .i64 x1, .int .i64 x2] 44)).heap[W.heap.size]? = some (.cells #[.int .i64 x0, .int .i64 x1, .int .i64 x2] 44 (0, 0))) := ⟨heap_alloc_new W _⟩
      have HB : Aside0 (Below W.heap.size W (W.alloc (.cells #[.int .i64 x0, .int .i64 x1, .int .i64 x2] 44))) := ⟨(Below.refl _ _).alloc (Nat.le_refl _) _⟩
      generalize W.alloc (.cells #[.int .i64 x0, .int .i64 x1, .int .i64 x2] 44) = w4 at HNEW HB ⊢
      generalize hgb : W.heap.size = gb at HNEW ⊢
      have HGB := Aside0.mk hgb
      clear hgb
      obtain ⟨d0, d1, d2, _⟩ := cells3 HNEW.out
      go_wp2_with (first
        | (go_at_call 16; go_must (refine (HFW.out _ HB.out).mono ?_; rintro e w1 ⟨rfl, hb⟩; replace HNEW := Aside0.mk ((hb.block gb (YtdbbcngmnpejnaaDoorW.PrintWords.blk_lt HNEW.out)).trans HNEW.out); replace HB := Aside0.mk (below_then HB.out HB.out.size hb); clear hb d0 d1 d2; obtain ⟨d0, d1, d2, _⟩ := cells3 HNEW.out))
        | (go_at_call 30; go_must (refine (HLI.out _ HB.out).mono ?_; rintro e w1 ⟨rfl, hb⟩; replace HNEW := Aside0.mk ((hb.block gb (YtdbbcngmnpejnaaDoorW.PrintWords.blk_lt HNEW.out)).trans HNEW.out); replace HB := Aside0.mk (below_then HB.out HB.out.size hb); clear hb d0 d1 d2; obtain ⟨d0, d1, d2, _⟩ := cells3 HNEW.out))
        | (go_at_call 31; go_must (refine (HTR.out _ HB.out).mono ?_; rintro e wq ⟨rfl, hb⟩; replace HNEW := Aside0.mk ((hb.block gb (YtdbbcngmnpejnaaDoorW.PrintWords.blk_lt HNEW.out)).trans HNEW.out); replace HB := Aside0.mk (below_then HB.out HB.out.size hb); clear hb d0 d1 d2; obtain ⟨d0, d1, d2, _⟩ := cells3 HNEW.out))
        | (go_at_call 15; go_must (refine (HAL.out _ HB.out).mono ?_; rintro e wq ⟨rfl, hb⟩; replace HNEW := Aside0.mk ((hb.block gb (YtdbbcngmnpejnaaDoorW.PrintWords.blk_lt HNEW.out)).trans HNEW.out); replace HB := Aside0.mk (below_then HB.out HB.out.size hb); clear hb d0 d1 d2; obtain ⟨d0, d1, d2, _⟩ := cells3 HNEW.out)))
      go_ret
      exact ⟨rfl, by first | exact HB.out | (rw [← HGB.out]; exact HB.out)⟩
end Go.Proofs.YtdbbcngmnpejnaaDoor.B

/- An argument that is a slice of triples, opened to a row of cells. -/
namespace Go.Proofs.YtdbbcngmnpejnaaDoor.A
open Go.ChangeShapes Go.WideShapes Go.Deep
open Go.RowKit Go.Proofs.YtdbbcngmnpejnaaDoorW.PrintWords

theorem list_of {α : Type} {P : Nat → α → Prop} : ∀ n, (∀ i, i < n → ∃ x, P i x) → ∃ l : List α, l.length = n ∧ ∀ (i : Nat) (x : α), l[i]? = some x → P i x := by
  intro n
  induction n with
  | zero => exact fun _ => ⟨[], rfl, fun i x h => by simp at h⟩
  | succ n ih =>
    intro h
    obtain ⟨l, hl, hp⟩ := ih (fun i hi => h i (by omega))
    obtain ⟨x, hx⟩ := h n (by omega)
    refine ⟨l ++ [x], by simp [hl], fun i y hy => ?_⟩
    by_cases hi : i < l.length
    · rw [List.getElem?_append_left hi] at hy
      exact hp i y hy
    · have e : i = n := by
        have := (List.getElem?_eq_some_iff.1 hy).1
        rw [List.length_append, List.length_singleton] at this
        omega
      subst e
      have : x = y := by simpa [← hl] using hy
      subst this
      exact hx

set_option maxRecDepth 100000 in
theorem open_triples {H : Type} {enc : TypeId × Value → H} {W : World} {a : Option Addr} {len cap : Nat} {d : DataW H} {p : List MemPlace} (h : DataW.Trod enc Tryd.prog W 0 (fun _ => true) true 27 (.slice a len cap) d p) :
    ∃ ps : List S44, ps.length = len ∧ len ≤ cap ∧ cap ≤ maxLen ∧ Kd.C k44 W a len ps := by
  obtain ⟨fuel, hf⟩ := h
  rcases open_slice Tryd.underlying27 hf with ⟨hcs, _⟩ | ⟨x, l, c, m, n, D, Pl, hcs, _, hl, hm, hmm, _, hi⟩
  · simp [Value.cells] at hcs
    obtain ⟨rfl, rfl, rfl⟩ := hcs
    exact ⟨[], rfl, Nat.le_refl _, Nat.zero_le _, rfl, by omega, fun h => absurd h (by omega)⟩
  · simp [Value.cells] at hcs
    obtain ⟨rfl, rfl, rfl⟩ := hcs
    have hC : Tryd.prog.cellsOf 44 = 3 := by kernel_rfl
    have he : ∀ i, i < len → ∃ q : S44, W.cell? (x.add (i * 3)) = some (.int .i64 q.f0) ∧ W.cell? (x.add (i * 3 + 1)) = some (.int .i64 q.f1) ∧ W.cell? (x.add (i * 3 + 2)) = some (.int .i64 q.f2) := by
      intro i hil
      obtain ⟨cs', hc, ht'⟩ := hi i (by rw [hmm, if_pos rfl]; omega)
      rw [hC] at hc
      obtain ⟨ys, n', _, _, hlen, hyl, hfd⟩ := DataW.trod_struct Tryd.underlying44 ht'
      obtain ⟨_, hcl, hat⟩ := World.cells?_some hc
      have h0 := hfd 0 _ rfl
      have h1 := hfd 1 _ rfl
      have h2 := hfd 2 _ rfl
      match cs', hcl, ys, hyl with
      | [c0, c1, c2], _, [y0, y1, y2], _ =>
        have e0 : Tryd.prog.cellsOf 3 = 1 := by kernel_rfl
        simp [e0] at h0 h1 h2
        obtain ⟨n0, hn0, _, _⟩ := DataW.trod_int Tryd.underlying3 h0
        obtain ⟨n1, hn1, _, _⟩ := DataW.trod_int Tryd.underlying3 h1
        obtain ⟨n2, hn2, _, _⟩ := DataW.trod_int Tryd.underlying3 h2
        simp at hn0 hn1 hn2
        subst hn0 hn1 hn2
        refine ⟨⟨n0, n1, n2⟩, ?_, ?_, ?_⟩
        · have := hat 0 (by omega)
          rw [Go.Deep.add_add] at this
          exact this
        · have := hat 1 (by omega)
          rw [Go.Deep.add_add] at this
          exact this
        · have := hat 2 (by omega)
          rw [Go.Deep.add_add] at this
          exact this
    obtain ⟨ps, hps, hall⟩ := list_of len he
    refine ⟨ps, hps, hl, hm, hps, by unfold maxLen at hm; omega, fun _ => ⟨x, rfl, fun j q hj => ⟨[.int .i64 q.f0, .int .i64 q.f1, .int .i64 q.f2], rfl, k44_mk W q, fun i u hu => ?_⟩⟩⟩
    obtain ⟨g0, g1, g2⟩ := hall j q hj
    match i, hu with
    | 0, hu => cases hu; exact g0
    | 1, hu => cases hu; exact g1
    | 2, hu => cases hu; exact g2
end Go.Proofs.YtdbbcngmnpejnaaDoor.A

/- BreedMore holds: its code returns true and leaves what it was given as it was. Conditions: those of the given statement, none besides. -/
namespace Go.Proofs.YtdbbcngmnpejnaaDoor.breedMore
open Go.ChangeShapes Go.WideShapes Go.ChangeAt Go.RowKit
open Go.ChangeMaps (open_string shut_string)
open Go.Proofs.YtdbbcngmnpejnaaDoorW.PrintWords
open Go.Proofs.YtdbbcngmnpejnaaDoor.A
set_option linter.unusedVariables false
theorem own : ownKnob Tryd.prog.godebug = none := by kernel_rfl
theorem laidOut : laidOutB Tryd.prog = true := by kernel_rfl
def IsRow (k : IntKind) (w : World) (a : Option Addr) (len cap : Nat) (zs : List Int) : Prop :=
  (a = none ∧ len = 0 ∧ cap = 0 ∧ zs = []) ∨
  ∃ x, a = some x ∧ len ≤ cap ∧ cap ≤ maxLen ∧ zs.length = cap ∧ (∀ i, i < zs.length → w.cell? (x.add i) = some (.int k (zs.getD i 0))) ∧ ∀ n ∈ zs, (Lit.int k n).wf = true
set_option maxRecDepth 100000 in
theorem lifted (os : Os) (started : os.Started) (H : Type) (enc : TypeId × Value → H) :
    ReturnsInHanded {} Tryd.checked os 7 .any (fun w args => (Rows.breedMoreSpec.pre enc Tryd.prog Tryd.f7 [] false w args ∧ laidMetH Tryd.prog Go.Proofs.YtdbbcngmnpejnaaDoor.B.laidB w) ∧ sizedMet enc Tryd.prog Tryd.f7 (OpenSpec.ofChange Rows.breedMoreSpec) false w args)
      (Rows.breedMoreSpec.post enc Tryd.prog Tryd.f7 false true false false) := by
  refine returnsInHanded_of_change_and (C := Tryd.checked) (X := fun w _ => laidMetH Tryd.prog Go.Proofs.YtdbbcngmnpejnaaDoor.B.laidB w) (fun _ _ _ hh h => h.of_heap hh) own started (by kernel_rfl) Tryd.func7
    (ChangeSpec.witness_shaped (enc := enc) (C := Tryd.checked) (os := os) (X := fun w _ => laidMetH Tryd.prog Go.Proofs.YtdbbcngmnpejnaaDoor.B.laidB w) false (World.doorLaid Tryd.prog 24 os) #[.int .i64 0, .slice none 0 0, .agg #[.int .i64 0, .int .i64 0, .int .i64 0], .string ByteArray.empty] 8 rfl (World.shaped_of_RefB (by kernel_rfl) (by kernel_rfl)) (by kernel_rfl) (by kernel_rfl) (by kernel_rfl) (Go.Proofs.YtdbbcngmnpejnaaDoor.B.door_met os _)) ?_
  intro W base args ds gs before hval0 hW hcnd hsz0 hL _
  have hsz : (DataW.weightsEach Tryd.prog (Tryd.f7.params.toList ++ Rows.breedMoreSpec.plain.varTypes Tryd.prog) (ds ++ gs)).all (· ≤ reachBytes) = true := hsz0
  have hval : ∀ (j : Nat) t v, Tryd.f7.params[j]? = some t → args[j]? = some v → Value.okWide Tryd.prog W .any base t v := hval0
  have hW' := hW
  obtain ⟨p, q, hA0, hV, rfl, hfz, hnd⟩ := hW
  have hA : DataW.TrodAll enc Tryd.prog W 0 (fun _ => true) true Tryd.f7.params.toList args.toList ds p := hA0
  rw [Tryd.params7] at hA hval hsz
  obtain ⟨v0, vs0, d0, ds0, p0, q0, hargs, rfl, rfl, h0, r0⟩ := trodAll_cons hA
  obtain ⟨v1, vs1, d1, ds1, p1, q1, rfl, rfl, rfl, h1, r1⟩ := trodAll_cons r0
  obtain ⟨v2, vs2, d2, ds2, p2, q2, rfl, rfl, rfl, h2, r2⟩ := trodAll_cons r1
  obtain ⟨v3, vs3, d3, ds3, p3, q3, rfl, rfl, rfl, h3, r3⟩ := trodAll_cons r2
  obtain ⟨rfl, rfl, rfl⟩ := trodAll_nil r3
  obtain rfl : args = #[v0, v1, v2, v3] := by cases args; simp_all
  obtain ⟨rfl, rfl⟩ := trodVars_none hV
  obtain ⟨a0, rfl, rfl, rfl, w0⟩ := open_int Tryd.underlying3 (hval 0 3 v0 rfl rfl) h0
  obtain ⟨a1, len1, cap1, rfl⟩ := okWide_slice Tryd.underlying27 (hval 1 27 v1 rfl rfl)
  have k1 := h1
  have lt1 : ∀ x ∈ p1, x.block < W.heap.size := by obtain ⟨m, hm⟩ := k1; exact DataW.trod_lt m _ _ _ hm
  obtain ⟨l1, rfl, hc1, hm1, hr1⟩ := open_triples h1
  have k2 := h2
  have lt2 : ∀ x ∈ p2, x.block < W.heap.size := by obtain ⟨m, hm⟩ := k2; exact DataW.trod_lt m _ _ _ hm
  obtain ⟨x2, y2, z2, hv2⟩ : ∃ x y z, v2 = .agg #[.int .i64 x, .int .i64 y, .int .i64 z] := by
    obtain ⟨u0, u1, u2, e0, e1, e2, n, hu, _, _, g0, g1, g2⟩ := Go.Joins.open_agg3 Tryd.underlying44 (by kernel_rfl) (by kernel_rfl) (hval 2 44 v2 rfl rfl) h2
    obtain ⟨n0, hn0, _, _⟩ := DataW.trod_int Tryd.underlying3 g0
    obtain ⟨n1, hn1, _, _⟩ := DataW.trod_int Tryd.underlying3 g1
    obtain ⟨n2, hn2, _, _⟩ := DataW.trod_int Tryd.underlying3 g2
    injection hn0 with hn0
    injection hn1 with hn1
    injection hn2 with hn2
    exact ⟨n0, n1, n2, by rw [hu, hn0, hn1, hn2]⟩
  subst hv2
  obtain ⟨a3, rfl, rfl, rfl, y3⟩ := open_string Tryd.underlying9 (hval 3 9 v3 rfl rfl) h3
  have w3 : a3.size ≤ 140737488351232 := by
    have z := sized_string hsz (j := 3) (t := 9) rfl rfl
    rw [Array.length_toList] at z
    exact z
  clear hA0 hval0 hsz0 hsz
  refine (B.more_any a0 a1 cap1 l1 ⟨x2, y2, z2⟩ a3 W hr1 hc1 (B.of_laid hL)).mono fun e W' ⟨he, bel⟩ => ?_
  subst he
  exact ⟨_, rfl, _, _, _, [], _, [], hW', trodAll_mk1 (shut_bool Tryd.underlying4 _), (trodAll_cons_mk (shut_int Tryd.underlying3 w0) (trodAll_cons_mk (Below.trod laidOut (by kernel_rfl) (of_decide_eq_true (by kernel_rfl)) k1 bel lt1) (trodAll_cons_mk (Below.trod laidOut (by kernel_rfl) (of_decide_eq_true (by kernel_rfl)) k2 bel lt2) (trodAll_cons_mk (shut_string Tryd.underlying9 y3) trodAll_mk0)))), rfl, bel.frame _, fun h => by cases h⟩
theorem over : Rows.breedMoreRow.holds Tryd.pinned (OpenSpec.ofChange Rows.breedMoreSpec) :=
  OpenClaim.holds_of_wide 7 Tryd.f7 rfl rfl rfl rfl rfl rfl rfl ⟨rfl, rfl, rfl, rfl, rfl⟩ rfl rfl rfl rfl rfl (by kernel_rfl) Tryd.func7 (by kernel_rfl)
    (of_decide_eq_true (by kernel_rfl)) (by unfold Func.isWrapper; first | (rw [if_pos (by decide +kernel)]; kernel_rfl) | (rw [if_neg (by decide +kernel)]; exact ⟨rfl, rfl⟩))
    (fun os started H enc _ => lifted os started H enc)
theorem proved : Rows.BreedMoreSaid := over
/-- The tied card. -/
theorem card : Rows.BreedMoreCardSaid :=
  Claim7.holds_tied_plain_at .later [] [.data, .data] true (true, "449c50ce385e76ce5fb1e3c7acce1baa715782fc22fdf803fec36f95dc6565be") true
    proved (fun _ h => by cases h) (by kernel_rfl) (fun _ h => by cases h) breedMore_row_tie rfl ⟨rfl, rfl⟩ (by kernel_rfl) rfl
    (fun f fn hf hfn => by
      obtain rfl : f = 7 := Option.some.inj ((show Tryd.prog.funcNamed "droveway/drovewaylaw05.BreedMore" = some 7 by kernel_rfl).symm.trans hf) |>.symm
      obtain rfl : fn = Tryd.f7 := (Option.some.inj (Tryd.func7.symm.trans hfn)).symm
      exact ⟨by kernel_rfl, fun j t ht => by
        rw [Tryd.params7] at ht
        have hm : t ∈ [3, 27, 44, 9] := by simpa using Array.mem_of_getElem? ht
        have hall : ([3, 27, 44, 9].all fun u => !Tryd.prog.wantsStandIn u) = true := by kernel_rfl
        exact (show Tryd.prog.wantsStandIn t = false by simpa using List.all_eq_true.1 hall t hm)⟩)
    (by kernel_rfl)
#print axioms card
end Go.Proofs.YtdbbcngmnpejnaaDoor.breedMore
namespace Go.Proofs.YtdbbcngmnpejnaaDoor
/-- The card, under a short name, for the claim. -/
theorem breedMore_holds : Rows.BreedMoreCardSaid := breedMore.card
end Go.Proofs.YtdbbcngmnpejnaaDoor
