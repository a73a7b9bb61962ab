/- BreedShows holds: its code returns true and leaves what it was given as it was. Conditions: those of the given statement, none besides. -/
import Derived.Test.YtdbbcngmnpejnaaDoorZSh3
import Derived.Test.YtdbbcngmnpejnaaDoorProg
import Derived.Below
import Derived.Deep.Draws
import Derived.Deep.AppendLies
import Derived.Maps.AppendAt
import Derived.OwnWalk
import Derived.Laws.BytesArg
import Derived.Laws.MakeOwn
import Derived.Laws.OwnMore
import Derived.Deep.OwnRows
import Derived.Tactics
import Derived.Lib.ConvBytes
import Derived.Laws.Slices
import Derived.WalkKit
import Derived.KernelRfl
import Derived.RowKit3
import Derived.Deep.LoopGhost
import Derived.Deep.QuietTactic
import Derived.BigQuiet
import Derived.WideLaws
import Derived.Deep.DeepCutAuto
import Derived.Deep.CutBlock
import Derived.Deep.RegionHeld3
import Derived.Laws.Rows
import Derived.Lib.AppendStr
import Derived.ArgAppend
import Derived.Laws.IdiomCopy
import Derived.OrdersHeld
import Derived.Laws.BitsLemmas
import Derived.RowKit
import Derived.Test.YtdbbcngmnpejnaaDoorWWords
import Derived.Test.YtdbbcngmnpejnaaDoorWLast
import Derived.Test.YtdbbcngmnpejnaaDoorWTab
import Derived.Test.YtdbbcngmnpejnaaDoorWRepsOne
import Derived.Test.YtdbbcngmnpejnaaDoorWGuard
import Derived.Test.YtdbbcngmnpejnaaDoorRows
import Derived.ProofKit
import Derived.LaidMore
import Derived.OpenShut
import Derived.Stop.Joined
import Derived.Deep.Slices
import Derived.ChangeSame
import Derived.Test.YtdbbcngmnpejnaaDoorCards
import Derived.Test.YtdbbcngmnpejnaaDoorTie
import Derived.SevenTiedAt
import Derived.ShutString
import Derived.ChangeOld
import Derived.SizedLaws
import Derived.Test.YtdbbcngmnpejnaaDoorWSized
/- breed.Kept, walked. -/
namespace Go.Proofs.YtdbbcngmnpejnaaDoor.B
open Go.Proofs.YtdbbcngmnpejnaaDoor.A
open Go.RowKit Go.Proofs.YtdbbcngmnpejnaaDoorW.PrintWords Go.Proofs.YtdbbcngmnpejnaaDoorW.PrintMore
def keptE (n : Int) (L : List UInt8) (s : Int) : ByteArray × Int := match parseE n L with
  | none => (⟨#[]⟩, errT n)
  | some t => if 1 ≤ s ∧ s < ((2 ^ n.toNat : Nat) : Int) then (match t.kept s.toNat with
    | some u => (strB u.text, 0)
    | none => (⟨#[]⟩, 0)) else (⟨#[]⟩, 2)
theorem full_and {s n : Nat} (h : s < 2 ^ n) : (2 ^ n - 1) &&& s = s := by
  rw [Nat.and_comm, Nat.and_two_pow_sub_one_eq_mod, Nat.mod_eq_of_lt h]
/-- Some of the beasts are kept. -/
theorem kept_some {t : BT} {n s : Nat} (hg : t.Good) (hs : t.set = 2 ^ n - 1) (h0 : s ≠ 0) (h1 : s < 2 ^ n) : ∃ u, t.kept s = some u ∧ u.Good ∧ u.set = s := by
  obtain ⟨a, b⟩ := kept_spec s t hg
  cases h : t.kept s with
  | none =>
    have := b h
    rw [hs, full_and h1] at this
    exact absurd this h0
  | some u =>
    have := a u h
    rw [hs, full_and h1] at this
    exact ⟨u, rfl, this.1, this.2⟩
set_option maxRecDepth 100000 in
set_option maxHeartbeats 3200000 in
theorem Kept_calls (n : Int) (L : List UInt8) (s : Int) (W : World) (hT : TabAt W) :
    Calls Tryd.prog 24 #[.int .i64 n, .string (strB L), .int .i64 s] W fun e w' => e = .returned (.tuple #[.string (keptE n L s).1, .int .i64 (keptE n L s).2]) ∧ Below W.heap.size W w' := by
  have HT := Aside0.mk hT
  obtain ⟨Z, hZ⟩ : ∃ Z, keptE n L s = Z := ⟨_, rfl⟩
  rw [hZ]
  unfold keptE at hZ
  have HC : Aside0 (Calls Tryd.prog 52 #[.int .i64 n, .slice (some ⟨W.heap.size, 0, none⟩) 1 1] (W.alloc (.cells #[.string (strB L)] 9)) fun e w' => ((parseE n L = none ∧ e = .returned (.tuple #[.slice none 0 0, .int .i64 (errT n)])) ∨
      ∃ (t : BT) (g cap : Nat) (T : TypeId) (u : Value), parseE n L = some t ∧ e = .returned (.tuple #[.slice (some ⟨g, 0, none⟩) 1 cap, .int .i64 0]) ∧ w'.cell? ⟨g, 0, none⟩ = some (.iface T u) ∧ TrV w' (fun _ => True) (.iface T u) t) ∧ Below W.heap.size W w') :=
    ⟨(read_one n W.heap.size 1 L _ (blk_cell (heap_alloc_new W (.cells #[.string (strB L)] 9)) 0) (HT.out.next ((Below.refl _ _).alloc (Nat.le_refl _) _))).mono fun e w' ⟨h1, h2⟩ => ⟨h1, below_then ((Below.refl _ W).alloc (Nat.le_refl _) _) ((Below.refl _ W).alloc (Nat.le_refl _) _).size h2⟩⟩
  generalize strB L = sb at HC ⊢
  have he0 := errT_ne n
  obtain ⟨e1, e2⟩ := errne he0
  cases hp : parseE n L with
  | none =>
    rw [hp] at hZ
    dsimp only at hZ
    subst hZ
    have HC2 : Aside0 (Calls Tryd.prog 52 #[.int .i64 n, .slice (some ⟨W.heap.size, 0, none⟩) 1 1] (W.alloc (.cells #[.string sb] 9)) fun e w' => e = .returned (.tuple #[.slice none 0 0, .int .i64 (errT n)]) ∧ Below W.heap.size W w') := ⟨HC.out.mono (by
      rintro e w' ⟨⟨_, h⟩ | ⟨t, _, _, _, _, h, _⟩, hb⟩
      · exact ⟨h, hb⟩
      · rw [hp] at h; cases h)⟩
    clear HC hp he0
    generalize errT n = E at *
    go_enter Tryd.func24, Tryd.ntmps24
    go_wp2_with (go_at_call 52; go_must (refine HC2.out.mono ?_; rintro e w1 ⟨rfl, hb1⟩; have HB1 := Aside0.mk hb1; clear hb1))
    go_ret2
    exact ⟨rfl, HB1.out⟩
  | some t =>
    rw [hp] at hZ
    dsimp only at hZ
    obtain ⟨hn1, hn8, hgt, hst⟩ := parseE_good hp
    have HG := Aside0.mk hgt
    have HC2 : Aside0 (Calls Tryd.prog 52 #[.int .i64 n, .slice (some ⟨W.heap.size, 0, none⟩) 1 1] (W.alloc (.cells #[.string sb] 9)) fun e w' => ∃ (g cap : Nat) (T : TypeId) (u : Value), e = .returned (.tuple #[.slice (some ⟨g, 0, none⟩) 1 cap, .int .i64 0]) ∧ w'.cell? ⟨g, 0, none⟩ = some (.iface T u) ∧ TrV w' (fun _ => True) (.iface T u) t ∧ Below W.heap.size W w') := ⟨HC.out.mono (by
      rintro e w' ⟨⟨h, _⟩ | ⟨t', g, cap, T, u, h, h1, h2, h3⟩, hb⟩
      · rw [hp] at h; cases h
      · rw [hp] at h; cases h; exact ⟨g, cap, T, u, h1, h2, h3, hb⟩)⟩
    obtain ⟨m, rfl⟩ : ∃ m : Nat, n = m := ⟨n.toNat, by omega⟩
    have hm8 : m ≤ 8 := by omega
    rw [Int.toNat_natCast] at hst hZ
    clear HC hp he0 e1 e2
    have hP := pow_256 hm8
    have hw1 := wrap_pow hm8
    have hw2 := wrap64_pow hm8
    by_cases hs : 1 ≤ s ∧ s < ((2 ^ m : Nat) : Int)
    · rw [if_pos hs] at hZ
      obtain ⟨q, rfl⟩ : ∃ q : Nat, s = q := ⟨s.toNat, by omega⟩
      rw [Int.toNat_natCast] at hZ
      obtain ⟨u, hku, hug, hus⟩ := kept_some (s := q) hgt hst (by omega) (by omega)
      rw [hku] at hZ
      dsimp only at hZ
      subst hZ
      have hq8 : q < 256 := by omega
      have HK : Aside0 (∀ (v : Value) (w : World), TrV w (fun _ => True) v t → TabAt w → Calls Tryd.prog 53 #[v, .int .i64 (q : Int)] w fun e w' => ∃ v', e = .returned v' ∧ TrV w' (fun b => w.heap.size ≤ b) v' u ∧ Below w.heap.size w w') := ⟨fun v w h hT => (kept_calls q hq8 t HG.out _ v w h hT).mono (by
        rintro e w' ⟨⟨h, _⟩ | ⟨t', v, h, rfl, ht⟩, hb⟩
        · rw [hku] at h; cases h
        · rw [hku] at h; cases h; exact ⟨v, rfl, ht, hb⟩)⟩
      have HUG := Aside0.mk hug
      have hs1 := hs.1
      have hs2 := hs.2
      have hs3 : ¬ ((q : Int) < 1) := by omega
      clear hgt hst hku hug hus hq8
      generalize ((2 ^ m : Nat) : Int) = P at hw1 hw2 hs2
      clear hs hP
      show Calls _ _ _ _ fun e w' => e = .returned (.tuple #[.string (strB u.text), .int .i64 0]) ∧ Below W.heap.size W w'
      go_enter Tryd.func24, Tryd.ntmps24
      go_wp2_with (first
        | (go_at_call 52; go_must (refine HC2.out.mono ?_; rintro e w1 ⟨g, cap, T, u1, rfl, hc1, ht1, hb1⟩; have HTV := Aside0.mk ht1; have HB1 := Aside0.mk hb1; clear ht1 hb1))
        | (go_at_call 53; go_must (refine (HK.out _ _ HTV.out (HT.out.next HB1.out)).mono ?_; rintro e w2 ⟨v2, rfl, htv, hb2⟩; have HB3 := Aside0.mk (below_then HB1.out HB1.out.size hb2); obtain ⟨T2, u2, K, rfl, hmt, hen, hcall⟩ := text_calls u HUG.out _ v2 w2 htv; have HC3 := Aside0.mk (hcall w2 (Below.refl _ _) (HT.out.next HB3.out)); clear htv hb2 hcall))
        | (go_at_fn K; go_must (refine HC3.out.mono ?_; rintro e w3 ⟨rfl, hb3⟩; have HB4 := Aside0.mk (below_then HB3.out HB3.out.size hb3); clear hb3)))
      go_ret2
      exact ⟨rfl, HB4.out⟩
    · rw [if_neg hs] at hZ
      subst hZ
      clear hgt hst
      generalize ((2 ^ m : Nat) : Int) = P at hw1 hw2 hs
      clear hP
      by_cases hs1 : s < 1
      · clear hs
        go_enter Tryd.func24, Tryd.ntmps24
        go_wp2_with (go_at_call 52; go_must (refine HC2.out.mono ?_; rintro e w1 ⟨g, cap, T, u, rfl, hc1, ht1, hb1⟩; have HB1 := Aside0.mk hb1; clear ht1 hb1))
        go_ret2
        exact ⟨rfl, HB1.out⟩
      · have hs2 : ¬ s < P := by omega
        have hs3 : s ≥ P := by omega
        clear hs
        go_enter Tryd.func24, Tryd.ntmps24
        go_wp2_with (go_at_call 52; go_must (refine HC2.out.mono ?_; rintro e w1 ⟨g, cap, T, u, rfl, hc1, ht1, hb1⟩; have HB1 := Aside0.mk hb1; clear ht1 hb1))
        go_ret2
        exact ⟨rfl, HB1.out⟩
end Go.Proofs.YtdbbcngmnpejnaaDoor.B

/- slices.IndexFunc and slices.ContainsFunc over triples; breed.shows and breed.Shows, walked. (Printed by gen_d17.py.) -/
namespace Go.Proofs.YtdbbcngmnpejnaaDoor.B
open Go.Proofs.YtdbbcngmnpejnaaDoor.A
open Go.RowKit Go.Proofs.YtdbbcngmnpejnaaDoorW.PrintWords Go.Proofs.YtdbbcngmnpejnaaDoorW.PrintMore
def enc44 (t : S44) : Value := .agg #[.int .i64 t.f0, .int .i64 t.f1, .int .i64 t.f2]
/-- A function value that answers p at each element of a list, in every world in which all that lay in w lies unturned. -/
def PredB (g : Nat) (lb : Array Value) (p : S44 → Bool) (l : List S44) (w : World) : Prop :=
  ∀ (W : World) (x : S44), x ∈ l → Below w.heap.size w W → Calls Tryd.prog g (#[enc44 x] ++ lb) W fun e w' => e = .returned (.bool (p x)) ∧ Below w.heap.size w w'
set_option maxHeartbeats 2000000 in
set_option maxRecDepth 100000 in
theorem IndexFunc_tri (g : Nat) (lb : Array Value) (p : S44 → Bool) (eg : ∀ args w, (callFunc g args).run Tryd.prog w = .ok (.enter g args) w)
    (A : Option Addr) (n c : Nat) (l : List S44) (w : World) (hr : Kd.C k44 w A n l) (hp : PredB g lb p l w) :
    Calls Tryd.prog 75 #[.slice A n c, .func (.func g) #[] lb] w fun e w' => (∃ i : Int, e = .returned (.int .i64 i) ∧ Aside0 ((i = -1 ∧ ∀ j, j < n → p (l.getD j z44) = false) ∨ ∃ k : Nat, i = k ∧ k < n ∧ p (l.getD k z44) = true ∧ ∀ j, j < k → p (l.getD j z44) = false)) ∧ Below w.heap.size w w' := by
  have hlen : l.length = n := hr.1
  have hmax : n ≤ 9223372036854775807 := by have := hr.2.1; omega
  have HR := Aside0.mk hr
  have HP := Aside0.mk hp
  have HL := Aside0.mk hlen
  clear hr hp hlen
  go_enter Tryd.func75, Tryd.ntmps75
  go_wp2
  go_loopg [5, 8] n (fun gg _ s8 wr => ∃ kk : Nat, kk ≤ n ∧ n - kk ≤ gg ∧ s8 = .int .i64 kk ∧ Aside0 (Below w.heap.size w wr) ∧ Aside0 (∀ j, j < kk → p (l.getD j z44) = false))
  case atStart => exact ⟨0, Nat.zero_le _, by omega, rfl, ⟨Below.refl _ w⟩, ⟨fun j hj => absurd hj (Nat.not_lt_zero _)⟩⟩
  case round =>
    obtain ⟨kk, hkk, hg, rfl, BW, AF⟩ := hrel
    by_cases hlt : kk < n
    · have hltz : (kk : Int) < (n : Int) := by omega
      obtain ⟨ad, rfl, hx0, hx1, hx2⟩ := at_T44 (Kd.C_below HR.out BW.out) (kk : Int) (by omega) (by omega)
      rw [Int.toNat_natCast] at hx0 hx1 hx2
      have hrd : rd_T44 l (kk : Int) = l.getD kk z44 := by simp only [rd_T44, Int.toNat_natCast]
      rw [hrd] at hx0 hx1 hx2
      have hcall := HP.out wr (l.getD kk z44) (getD_mem z44 (by rw [HL.out]; exact hlt)) BW.out
      clear hrd
      generalize hy : l.getD kk z44 = y at hx0 hx1 hx2 hcall
      have B := Aside0.mk hy
      clear hy
      unfold enc44 at hcall
      cases hq : p y with
      | true =>
        rw [hq] at hcall
        go_wp2_with (go_at_fn g; refine hcall.mono ?_; rintro e w' ⟨rfl, hb'⟩)
        go_ret
        exact ⟨⟨kk, rfl, ⟨Or.inr ⟨kk, rfl, hlt, by rw [B.out]; exact hq, AF.out⟩⟩⟩, hb'⟩
      | false =>
        rw [hq] at hcall
        go_wp2_with (go_at_fn g; refine hcall.mono ?_; rintro e w' ⟨rfl, hb'⟩)
        go_roundg (n - (kk + 1))
        case measure => omega
        case rel =>
          refine ⟨kk + 1, by omega, by omega, by go_num, ⟨hb'⟩, ⟨fun j hj => ?_⟩⟩
          by_cases e : j = kk
          · subst e
            rw [B.out]; exact hq
          · exact AF.out j (by omega)
    · have hltz : ¬ (kk : Int) < (n : Int) := by omega
      have : kk = n := by omega
      subst this
      go_wp2
      go_ret
      exact ⟨⟨-1, rfl, ⟨Or.inl ⟨rfl, AF.out⟩⟩⟩, BW.out⟩
theorem enters58 (args : Array Value) (w : World) : (callFunc 58 args).run Tryd.prog w = .ok (.enter 58 args) w := by kernel_rfl
theorem ContainsFunc_tri (g : Nat) (lb : Array Value) (p : S44 → Bool) (eg : ∀ args w, (callFunc g args).run Tryd.prog w = .ok (.enter g args) w)
    (A : Option Addr) (n c : Nat) (l : List S44) (w : World) (hr : Kd.C k44 w A n l) (hp : PredB g lb p l w) :
    Calls Tryd.prog 57 #[.slice A n c, .func (.func g) #[] lb] w fun e w' => e = .returned (.bool (l.any p)) ∧ Below w.heap.size w w' := by
  have H := Aside0.mk (IndexFunc_tri g lb p eg A n c l w hr hp)
  have HL := Aside0.mk hr.1
  clear hr hp eg
  go_enter Tryd.func57, Tryd.ntmps57
  go_wp2_with (go_at_call 75; refine H.out.mono ?_; rintro e w' ⟨⟨i, rfl, hi⟩, hb'⟩)
  go_ret
  refine ⟨?_, hb'⟩
  rcases hi.out with ⟨rfl, h⟩ | ⟨k, rfl, hk, hpk, _⟩
  · rw [any_miss z44 (fun j hj => h j (by rw [← HL.out]; exact hj))]; rfl
  · rw [any_hit z44 (by rw [HL.out]; exact hk) hpk]
    show Ending.returned (.bool (decide ((k : Int) ≥ 0))) = _
    rw [decide_eq_true (by omega)]

/-! ### shows -/
def showsT (t : BT) (x : S44) : Bool := showsB t x.a x.b x.c
theorem and_one (q c : Nat) (hq : q < 256) : bits .and .i64 ((q : Int) / 2 ^ c) 1 = if q.testBit c = true then 1 else 0 := by
  have e : ((q : Int) / 2 ^ c) = ((q / 2 ^ c : Nat) : Int) := by rw [two_cast, ← Int.natCast_ediv]
  have hle : q / 2 ^ c < 256 := Nat.lt_of_le_of_lt (Nat.div_le_self _ _) hq
  rw [e]
  have h := and_cast (b := 1) hle (by decide)
  rw [show ((1 : Int)) = ((1 : Nat) : Int) from rfl, h, Nat.and_one_is_mod, Nat.testBit_eq_decide_div_mod_eq]
  by_cases h2 : q / 2 ^ c % 2 = 1
  · rw [decide_eq_true h2, if_pos rfl, h2]
  · rw [decide_eq_false h2, if_neg Bool.false_ne_true]; omega
set_option maxRecDepth 100000 in
set_option maxHeartbeats 3200000 in
theorem shows_calls (t : BT) (hg : t.Good) (x : S44) (hx : Tri8 x) (ok : Nat → Prop) (v : Value) (W : World) (hv : TrV W ok v t) :
    Calls Tryd.prog 59 #[v, enc44 x] W fun e w' => e = .returned (.bool (showsT t x)) ∧ Below W.heap.size W w' := by
  obtain ⟨Z, hZ⟩ : ∃ Z, showsT t x = Z := ⟨_, rfl⟩
  rw [hZ]
  unfold showsT showsB at hZ
  obtain ⟨ha8, hb8, hc8⟩ := tri_lt hx
  obtain ⟨⟨h00, _⟩, ⟨h10, _⟩, ⟨h20, _⟩⟩ := hx
  obtain ⟨t0, t1, t2⟩ := x
  unfold enc44
  dsimp only at h00 h10 h20 ⊢
  obtain ⟨a, rfl⟩ := Int.eq_ofNat_of_zero_le h00
  obtain ⟨b, rfl⟩ := Int.eq_ofNat_of_zero_le h10
  obtain ⟨c, rfl⟩ := Int.eq_ofNat_of_zero_le h20
  have ea : S44.a ⟨(a : Int), (b : Int), (c : Int)⟩ = a := rfl
  have eb : S44.b ⟨(a : Int), (b : Int), (c : Int)⟩ = b := rfl
  have ec : S44.c ⟨(a : Int), (b : Int), (c : Int)⟩ = c := rfl
  rw [ea] at ha8
  rw [eb] at hb8
  rw [ec] at hc8
  rw [ea, eb, ec] at hZ
  have hij : 2 ^ a ||| 2 ^ b < 256 := Nat.or_lt_two_pow (n := 8) (two_256 ha8) (two_256 hb8)
  have hor := low_or (two_256 ha8) (two_256 hb8)
  have HCM : Aside0 (∀ (w : World), Below W.heap.size W w → Calls Tryd.prog 69 #[v, .int .i64 ((2 ^ a ||| 2 ^ b : Nat) : Int)] w fun e w' => e = .returned (.int .i64 ((BT.common (2 ^ a ||| 2 ^ b) t : Nat) : Int)) ∧ Below w.heap.size w w') := ⟨fun w hb => common_calls _ hij t hg _ v w (hv.below hb : TrV w ok v t)⟩
  have hwa := wrap_two ha8
  have hwb := wrap_two hb8
  have hq8 : BT.common (2 ^ a ||| 2 ^ b) t < 256 := lt_of_bits (k := 8) fun i hi => good_lt hg i (common_sub i hi)
  have hand := and_one (BT.common (2 ^ a ||| 2 ^ b) t) c hq8
  clear hij hg hv ea eb ec h00 h10 h20
  generalize ((2 ^ a ||| 2 ^ b : Nat) : Int) = pr at HCM hor
  generalize BT.common (2 ^ a ||| 2 ^ b) t = q at HCM hand hZ hq8
  generalize ((2 ^ a : Nat) : Int) = XA at hwa hor
  generalize ((2 ^ b : Nat) : Int) = XB at hwb hor
  have hqi : (0 : Int) ≤ (q : Int) := by omega
  go_enter Tryd.func59, Tryd.ntmps59
  go_upto_region 1 with fail
  have HNEW : Aside0 ((W.alloc (.cells #[.int .i64 (a : Int), .int .i64 (b : Int), .int .i64 (c : Int)] 44)).heap[W.heap.size]? = some (.cells #[.int .i64 (a : Int), .int .i64 (b : Int), .int .i64 (c : Int)] 44 (0, 0))) := ⟨heap_alloc_new W _⟩
  have HB4 : Aside0 (Below W.heap.size W (W.alloc (.cells #[.int .i64 (a : Int), .int .i64 (b : Int), .int .i64 (c : Int)] 44))) := ⟨(Below.refl _ _).alloc (Nat.le_refl _) _⟩
  generalize W.alloc (.cells #[.int .i64 (a : Int), .int .i64 (b : Int), .int .i64 (c : Int)] 44) = w4 at HNEW HB4 ⊢
  generalize hgb : W.heap.size = gb at HNEW ⊢
  clear hgb
  obtain ⟨c0, c1, c2, _⟩ := cells3 HNEW.out
  cases hbit : q.testBit c with
  | true =>
    rw [hbit, if_pos rfl] at hand
    have HZ : Aside0 (false = Z) := ⟨by rw [← hZ, hbit]; rfl⟩
    clear hZ hbit
    refine wp_region_noPanic ?_
    refine wp_region_held_drew (S := fun w' => w'.cell? ⟨gb, 0, none⟩ = some (.int .i64 (a : Int)) ∧ w'.cell? ⟨gb, 1, none⟩ = some (.int .i64 (b : Int)) ∧ w'.cell? ⟨gb, 2, none⟩ = some (.int .i64 (c : Int))) (by kernel_rfl) (⟨c0, c1, c2⟩) (fun hHeld => ?_)
    refine H_on 0 5 ?vs0 rfl rfl (by kernel_rfl) (by kernel_rfl) (by kernel_rfl) (by rfl) ?hs0 hHeld ?rs0
    case hs0 => (intro w hSw; obtain ⟨s0, s1, s2⟩ := hSw; go_simp <;> with_reducible rfl)
    simp only [Act.put, List.setIfInBounds_toArray, List.set_cons_zero, List.set_cons_succ]
    refine H_on 1 6 ?vs1 rfl rfl (by kernel_rfl) (by kernel_rfl) (by kernel_rfl) (by rfl) ?hs1 hHeld ?rs1
    case hs1 => (intro w hSw; obtain ⟨s0, s1, s2⟩ := hSw; go_simp <;> with_reducible rfl)
    simp only [Act.put, List.setIfInBounds_toArray, List.set_cons_zero, List.set_cons_succ]
    refine H_on 2 7 ?vs2 rfl rfl (by kernel_rfl) (by kernel_rfl) (by kernel_rfl) (by rfl) ?hs2 hHeld ?rs2
    case hs2 => (intro w hSw; obtain ⟨s0, s1, s2⟩ := hSw; go_simp <;> with_reducible rfl)
    simp only [Act.put, List.setIfInBounds_toArray, List.set_cons_zero, List.set_cons_succ]
    refine H_on 3 8 ?vs3 rfl rfl (by kernel_rfl) (by kernel_rfl) (by kernel_rfl) (by rfl) ?hs3 hHeld ?rs3
    case hs3 => (intro w hSw; obtain ⟨s0, s1, s2⟩ := hSw; go_simp <;> with_reducible rfl)
    simp only [Act.put, List.setIfInBounds_toArray, List.set_cons_zero, List.set_cons_succ]
    refine H_on 4 9 ?vs4 rfl rfl (by kernel_rfl) (by kernel_rfl) (by kernel_rfl) (by rfl) ?hs4 hHeld ?rs4
    case hs4 => (intro w hSw; obtain ⟨s0, s1, s2⟩ := hSw; go_simp <;> with_reducible rfl)
    simp only [Act.put, List.setIfInBounds_toArray, List.set_cons_zero, List.set_cons_succ]
    refine H_on 5 10 ?vs5 rfl rfl (by kernel_rfl) (by kernel_rfl) (by kernel_rfl) (by rfl) ?hs5 hHeld ?rs5
    case hs5 => (intro w hSw; obtain ⟨s0, s1, s2⟩ := hSw; go_simp <;> with_reducible rfl)
    simp only [Act.put, List.setIfInBounds_toArray, List.set_cons_zero, List.set_cons_succ]
    refine H_on 6 11 ?vs6 rfl rfl (by kernel_rfl) (by kernel_rfl) (by kernel_rfl) (by rfl) ?hs6 hHeld ?rs6
    case hs6 => (intro w hSw; obtain ⟨s0, s1, s2⟩ := hSw; go_simp <;> with_reducible rfl)
    simp only [Act.put, List.setIfInBounds_toArray, List.set_cons_zero, List.set_cons_succ]
    refine H_on 7 12 ?vs7 rfl rfl (by kernel_rfl) (by kernel_rfl) (by kernel_rfl) (by rfl) ?hs7 hHeld ?rs7
    case hs7 => (intro w hSw; obtain ⟨s0, s1, s2⟩ := hSw; go_simp <;> with_reducible rfl)
    simp only [Act.put, List.setIfInBounds_toArray, List.set_cons_zero, List.set_cons_succ]
    refine H_on 9 14 ?vs9 rfl rfl (by kernel_rfl) (by kernel_rfl) (by kernel_rfl) (by rfl) ?hs9 hHeld ?rs9
    case hs9 => (intro w hSw; obtain ⟨s0, s1, s2⟩ := hSw; go_simp <;> with_reducible rfl)
    simp only [Act.put, List.setIfInBounds_toArray, List.set_cons_zero, List.set_cons_succ]
    refine H_on 10 15 ?vs10 rfl rfl (by kernel_rfl) (by kernel_rfl) (by kernel_rfl) (by rfl) ?hs10 hHeld ?rs10
    case hs10 => (intro w hSw; obtain ⟨s0, s1, s2⟩ := hSw; go_simp <;> with_reducible rfl)
    simp only [Act.put, List.setIfInBounds_toArray, List.set_cons_zero, List.set_cons_succ]
    refine wpAnyH_ready (rs := [8]) (by kernel_rfl) (by simp) ?_
    refine AllReadyH.cons rfl (fun K hK => ?_) AllReadyH.nil
    go_simp
    refine (HCM.out _ (below_drew HB4.out)).mono ?_
    rintro e w5 ⟨rfl, hb5⟩
    have hN5 := hb5.block gb (by have := blk_lt HNEW.out; exact this)
    have HN5 : Aside0 (w5.heap[gb]? = some (.cells #[.int .i64 (a : Int), .int .i64 (b : Int), .int .i64 (c : Int)] 44 (0, 0))) := ⟨hN5.trans HNEW.out⟩
    have HB6 : Aside0 (Below W.heap.size W w5) := ⟨below_then (below_drew HB4.out) (below_drew HB4.out).size hb5⟩
    clear hb5 hN5
    obtain ⟨d0, d1, d2, _⟩ := cells3 HN5.out
    go_wp2_with fail
    refine hK.out _ _ (⟨d0, d1, d2⟩) (fun hHeld => ?_)
    clear hK K
    try simp only [Act.put, List.setIfInBounds_toArray, List.set_cons_zero, List.set_cons_succ]
    refine H_on 11 16 ?vs11 rfl rfl (by kernel_rfl) (by kernel_rfl) (by kernel_rfl) (by rfl) ?hs11 hHeld ?rs11
    case hs11 => (intro w hSw; obtain ⟨s0, s1, s2⟩ := hSw; go_simp <;> with_reducible rfl)
    simp only [Act.put, List.setIfInBounds_toArray, List.set_cons_zero, List.set_cons_succ]
    refine H_on 12 17 ?vs12 rfl rfl (by kernel_rfl) (by kernel_rfl) (by kernel_rfl) (by rfl) ?hs12 hHeld ?rs12
    case hs12 => (intro w hSw; obtain ⟨s0, s1, s2⟩ := hSw; go_simp <;> with_reducible rfl)
    simp only [Act.put, List.setIfInBounds_toArray, List.set_cons_zero, List.set_cons_succ]
    refine H_on 13 18 ?vs13 rfl rfl (by kernel_rfl) (by kernel_rfl) (by kernel_rfl) (by rfl) ?hs13 hHeld ?rs13
    case hs13 => (intro w hSw; obtain ⟨s0, s1, s2⟩ := hSw; go_simp <;> with_reducible rfl)
    simp only [Act.put, List.setIfInBounds_toArray, List.set_cons_zero, List.set_cons_succ]
    refine H_on 14 4 ?vs14 rfl rfl (by kernel_rfl) (by kernel_rfl) (by kernel_rfl) (by rfl) ?hs14 hHeld ?rs14
    case hs14 => (intro w hSw; obtain ⟨s0, s1, s2⟩ := hSw; go_simp <;> with_reducible rfl)
    simp only [Act.put, List.setIfInBounds_toArray, List.set_cons_zero, List.set_cons_succ]
    refine wpAnyH_done (by kernel_rfl) ?_ _
    refine NoPanic.normal ?_
    clear hHeld
    go_wp2
    go_ret
    exact ⟨by rw [← HZ.out]; rfl, HB6.out⟩
  | false =>
    rw [hbit, if_neg Bool.false_ne_true] at hand
    have HZ : Aside0 (true = Z) := ⟨by rw [← hZ, hbit]; rfl⟩
    clear hZ hbit
    refine wp_region_noPanic ?_
    refine wp_region_held_drew (S := fun w' => w'.cell? ⟨gb, 0, none⟩ = some (.int .i64 (a : Int)) ∧ w'.cell? ⟨gb, 1, none⟩ = some (.int .i64 (b : Int)) ∧ w'.cell? ⟨gb, 2, none⟩ = some (.int .i64 (c : Int))) (by kernel_rfl) (⟨c0, c1, c2⟩) (fun hHeld => ?_)
    refine H_on 0 5 ?vu0 rfl rfl (by kernel_rfl) (by kernel_rfl) (by kernel_rfl) (by rfl) ?hu0 hHeld ?ru0
    case hu0 => (intro w hSw; obtain ⟨s0, s1, s2⟩ := hSw; go_simp <;> with_reducible rfl)
    simp only [Act.put, List.setIfInBounds_toArray, List.set_cons_zero, List.set_cons_succ]
    refine H_on 1 6 ?vu1 rfl rfl (by kernel_rfl) (by kernel_rfl) (by kernel_rfl) (by rfl) ?hu1 hHeld ?ru1
    case hu1 => (intro w hSw; obtain ⟨s0, s1, s2⟩ := hSw; go_simp <;> with_reducible rfl)
    simp only [Act.put, List.setIfInBounds_toArray, List.set_cons_zero, List.set_cons_succ]
    refine H_on 2 7 ?vu2 rfl rfl (by kernel_rfl) (by kernel_rfl) (by kernel_rfl) (by rfl) ?hu2 hHeld ?ru2
    case hu2 => (intro w hSw; obtain ⟨s0, s1, s2⟩ := hSw; go_simp <;> with_reducible rfl)
    simp only [Act.put, List.setIfInBounds_toArray, List.set_cons_zero, List.set_cons_succ]
    refine H_on 3 8 ?vu3 rfl rfl (by kernel_rfl) (by kernel_rfl) (by kernel_rfl) (by rfl) ?hu3 hHeld ?ru3
    case hu3 => (intro w hSw; obtain ⟨s0, s1, s2⟩ := hSw; go_simp <;> with_reducible rfl)
    simp only [Act.put, List.setIfInBounds_toArray, List.set_cons_zero, List.set_cons_succ]
    refine H_on 4 9 ?vu4 rfl rfl (by kernel_rfl) (by kernel_rfl) (by kernel_rfl) (by rfl) ?hu4 hHeld ?ru4
    case hu4 => (intro w hSw; obtain ⟨s0, s1, s2⟩ := hSw; go_simp <;> with_reducible rfl)
    simp only [Act.put, List.setIfInBounds_toArray, List.set_cons_zero, List.set_cons_succ]
    refine H_on 5 10 ?vu5 rfl rfl (by kernel_rfl) (by kernel_rfl) (by kernel_rfl) (by rfl) ?hu5 hHeld ?ru5
    case hu5 => (intro w hSw; obtain ⟨s0, s1, s2⟩ := hSw; go_simp <;> with_reducible rfl)
    simp only [Act.put, List.setIfInBounds_toArray, List.set_cons_zero, List.set_cons_succ]
    refine H_on 6 11 ?vu6 rfl rfl (by kernel_rfl) (by kernel_rfl) (by kernel_rfl) (by rfl) ?hu6 hHeld ?ru6
    case hu6 => (intro w hSw; obtain ⟨s0, s1, s2⟩ := hSw; go_simp <;> with_reducible rfl)
    simp only [Act.put, List.setIfInBounds_toArray, List.set_cons_zero, List.set_cons_succ]
    refine H_on 7 12 ?vu7 rfl rfl (by kernel_rfl) (by kernel_rfl) (by kernel_rfl) (by rfl) ?hu7 hHeld ?ru7
    case hu7 => (intro w hSw; obtain ⟨s0, s1, s2⟩ := hSw; go_simp <;> with_reducible rfl)
    simp only [Act.put, List.setIfInBounds_toArray, List.set_cons_zero, List.set_cons_succ]
    refine H_on 9 14 ?vu9 rfl rfl (by kernel_rfl) (by kernel_rfl) (by kernel_rfl) (by rfl) ?hu9 hHeld ?ru9
    case hu9 => (intro w hSw; obtain ⟨s0, s1, s2⟩ := hSw; go_simp <;> with_reducible rfl)
    simp only [Act.put, List.setIfInBounds_toArray, List.set_cons_zero, List.set_cons_succ]
    refine H_on 10 15 ?vu10 rfl rfl (by kernel_rfl) (by kernel_rfl) (by kernel_rfl) (by rfl) ?hu10 hHeld ?ru10
    case hu10 => (intro w hSw; obtain ⟨s0, s1, s2⟩ := hSw; go_simp <;> with_reducible rfl)
    simp only [Act.put, List.setIfInBounds_toArray, List.set_cons_zero, List.set_cons_succ]
    refine wpAnyH_ready (rs := [8]) (by kernel_rfl) (by simp) ?_
    refine AllReadyH.cons rfl (fun K hK => ?_) AllReadyH.nil
    go_simp
    refine (HCM.out _ (below_drew HB4.out)).mono ?_
    rintro e w5 ⟨rfl, hb5⟩
    have hN5 := hb5.block gb (by have := blk_lt HNEW.out; exact this)
    have HN5 : Aside0 (w5.heap[gb]? = some (.cells #[.int .i64 (a : Int), .int .i64 (b : Int), .int .i64 (c : Int)] 44 (0, 0))) := ⟨hN5.trans HNEW.out⟩
    have HB6 : Aside0 (Below W.heap.size W w5) := ⟨below_then (below_drew HB4.out) (below_drew HB4.out).size hb5⟩
    clear hb5 hN5
    obtain ⟨d0, d1, d2, _⟩ := cells3 HN5.out
    go_wp2_with fail
    refine hK.out _ _ (⟨d0, d1, d2⟩) (fun hHeld => ?_)
    clear hK K
    try simp only [Act.put, List.setIfInBounds_toArray, List.set_cons_zero, List.set_cons_succ]
    refine H_on 11 16 ?vu11 rfl rfl (by kernel_rfl) (by kernel_rfl) (by kernel_rfl) (by rfl) ?hu11 hHeld ?ru11
    case hu11 => (intro w hSw; obtain ⟨s0, s1, s2⟩ := hSw; go_simp <;> with_reducible rfl)
    simp only [Act.put, List.setIfInBounds_toArray, List.set_cons_zero, List.set_cons_succ]
    refine H_on 12 17 ?vu12 rfl rfl (by kernel_rfl) (by kernel_rfl) (by kernel_rfl) (by rfl) ?hu12 hHeld ?ru12
    case hu12 => (intro w hSw; obtain ⟨s0, s1, s2⟩ := hSw; go_simp <;> with_reducible rfl)
    simp only [Act.put, List.setIfInBounds_toArray, List.set_cons_zero, List.set_cons_succ]
    refine H_on 13 18 ?vu13 rfl rfl (by kernel_rfl) (by kernel_rfl) (by kernel_rfl) (by rfl) ?hu13 hHeld ?ru13
    case hu13 => (intro w hSw; obtain ⟨s0, s1, s2⟩ := hSw; go_simp <;> with_reducible rfl)
    simp only [Act.put, List.setIfInBounds_toArray, List.set_cons_zero, List.set_cons_succ]
    refine H_on 14 4 ?vu14 rfl rfl (by kernel_rfl) (by kernel_rfl) (by kernel_rfl) (by rfl) ?hu14 hHeld ?ru14
    case hu14 => (intro w hSw; obtain ⟨s0, s1, s2⟩ := hSw; go_simp <;> with_reducible rfl)
    simp only [Act.put, List.setIfInBounds_toArray, List.set_cons_zero, List.set_cons_succ]
    refine wpAnyH_done (by kernel_rfl) ?_ _
    refine NoPanic.normal ?_
    clear hHeld
    go_wp2
    go_ret
    exact ⟨by rw [← HZ.out]; rfl, HB6.out⟩
end Go.Proofs.YtdbbcngmnpejnaaDoor.B

/- The closures of Shows and Triples; breed.Shows, IsTree and Joined, walked. (Printed by gen_d18.py.) -/
namespace Go.Proofs.YtdbbcngmnpejnaaDoor.B
open Go.Proofs.YtdbbcngmnpejnaaDoor.A
open Go.RowKit Go.Proofs.YtdbbcngmnpejnaaDoorW.PrintWords Go.Proofs.YtdbbcngmnpejnaaDoorW.PrintMore
set_option maxRecDepth 100000 in
set_option maxHeartbeats 3200000 in
theorem clo58_calls (t : BT) (hg : t.Good) (l : List S44) (hl : ∀ x ∈ l, Tri8 x) (b8 g cap : Nat) (T : TypeId) (u : Value) (ok : Nat → Prop) (w : World) (h8 : w.cell? ⟨b8, 0, none⟩ = some (.slice (some ⟨g, 0, none⟩) 1 cap)) (hc : w.cell? ⟨g, 0, none⟩ = some (.iface T u)) (hv : TrV w ok (.iface T u) t) :
    PredB 58 #[.pointer (some ⟨b8, 0, none⟩)] (fun x => !showsT t x) l w := by
  intro W x hx hb
  have HL8 : Aside0 (b8 < w.heap.size) := ⟨World.block_lt_of_cell? w _ h8⟩
  have HLG : Aside0 (g < w.heap.size) := ⟨World.block_lt_of_cell? w _ hc⟩
  have H8 := Aside0.mk h8
  have HG := Aside0.mk hc
  have HS : Aside0 (∀ w1, Below w.heap.size w w1 → Calls Tryd.prog 59 #[.iface T u, enc44 x] w1 fun e w' => e = .returned (.bool (showsT t x)) ∧ Below w1.heap.size w1 w') := ⟨fun w1 h => shows_calls t hg x (hl x hx) ok _ w1 (hv.below h)⟩
  have HBW := Aside0.mk hb
  clear hx hb h8 hc hv
  show Calls Tryd.prog 58 #[enc44 x, .pointer (some ⟨b8, 0, none⟩)] W fun e w' => e = .returned (.bool (!showsT t x)) ∧ Below w.heap.size w w'
  generalize showsT t x = z at HS ⊢
  obtain ⟨t0, t1, t2⟩ := x
  unfold enc44 at HS ⊢
  dsimp only at HS ⊢
  go_enter Tryd.func58, Tryd.ntmps58
  go_upto_region 1 with fail
  have HNEW : Aside0 ((W.alloc (.cells #[.int .i64 t0, .int .i64 t1, .int .i64 t2] 44)).heap[W.heap.size]? = some (.cells #[.int .i64 t0, .int .i64 t1, .int .i64 t2] 44 (0, 0))) := ⟨heap_alloc_new W _⟩
  have HB4 : Aside0 (Below w.heap.size w (W.alloc (.cells #[.int .i64 t0, .int .i64 t1, .int .i64 t2] 44))) := ⟨below_alloc HBW.out _⟩
  generalize W.alloc (.cells #[.int .i64 t0, .int .i64 t1, .int .i64 t2] 44) = w4 at HNEW HB4 ⊢
  generalize W.heap.size = gb at HNEW ⊢
  obtain ⟨c0, c1, c2, _⟩ := cells3 HNEW.out
  have e0 : w4.cell? ⟨b8, 0, none⟩ = some (.slice (some ⟨g, 0, none⟩) 1 cap) := (World.cell?_of_block (HB4.out.block b8 HL8.out)).trans H8.out
  have e1 : w4.cell? ⟨g, 0, none⟩ = some (.iface T u) := (World.cell?_of_block (HB4.out.block g HLG.out)).trans HG.out
  refine wp_region_noPanic ?_
  refine wp_region_held_drew (S := fun w' => w'.cell? ⟨b8, 0, none⟩ = some (.slice (some ⟨g, 0, none⟩) 1 cap) ∧ w'.cell? ⟨g, 0, none⟩ = some (.iface T u) ∧ w'.cell? ⟨gb, 0, none⟩ = some (.int .i64 t0) ∧ w'.cell? ⟨gb, 1, none⟩ = some (.int .i64 t1) ∧ w'.cell? ⟨gb, 2, none⟩ = some (.int .i64 t2)) (by kernel_rfl) (⟨e0, e1, c0, c1, c2⟩) (fun hHeld => ?_)
  refine H_on 0 4 ?vc580 rfl rfl (by kernel_rfl) (by kernel_rfl) (by kernel_rfl) (by rfl) ?hc580 hHeld ?rc580
  case hc580 => (intro w hSw; obtain ⟨s0, s1, s2, s3, s4⟩ := hSw; go_simp <;> with_reducible rfl)
  simp only [Act.put, List.setIfInBounds_toArray, List.set_cons_zero, List.set_cons_succ]
  refine H_on 1 5 ?vc581 rfl rfl (by kernel_rfl) (by kernel_rfl) (by kernel_rfl) (by rfl) ?hc581 hHeld ?rc581
  case hc581 => (intro w hSw; obtain ⟨s0, s1, s2, s3, s4⟩ := hSw; go_simp <;> with_reducible rfl)
  simp only [Act.put, List.setIfInBounds_toArray, List.set_cons_zero, List.set_cons_succ]
  refine H_on 2 6 ?vc582 rfl rfl (by kernel_rfl) (by kernel_rfl) (by kernel_rfl) (by rfl) ?hc582 hHeld ?rc582
  case hc582 => (intro w hSw; obtain ⟨s0, s1, s2, s3, s4⟩ := hSw; go_simp <;> with_reducible rfl)
  simp only [Act.put, List.setIfInBounds_toArray, List.set_cons_zero, List.set_cons_succ]
  refine H_on 3 7 ?vc583 rfl rfl (by kernel_rfl) (by kernel_rfl) (by kernel_rfl) (by rfl) ?hc583 hHeld ?rc583
  case hc583 => (intro w hSw; obtain ⟨s0, s1, s2, s3, s4⟩ := hSw; go_simp <;> with_reducible rfl)
  simp only [Act.put, List.setIfInBounds_toArray, List.set_cons_zero, List.set_cons_succ]
  refine wpAnyH_ready (rs := [4]) (by kernel_rfl) (by simp) ?_
  refine AllReadyH.cons rfl (fun K hK => ?_) AllReadyH.nil
  go_simp
  refine (HS.out _ (below_drew HB4.out)).mono ?_
  rintro e w5 ⟨rfl, hb5⟩
  have HB6 : Aside0 (Below w.heap.size w w5) := ⟨below_then (below_drew HB4.out) (below_drew HB4.out).size hb5⟩
  have hN5 := (hb5.block gb (by have := blk_lt HNEW.out; exact this)).trans HNEW.out
  have f0 : w5.cell? ⟨b8, 0, none⟩ = some (.slice (some ⟨g, 0, none⟩) 1 cap) := (World.cell?_of_block (HB6.out.block b8 HL8.out)).trans H8.out
  have f1 : w5.cell? ⟨g, 0, none⟩ = some (.iface T u) := (World.cell?_of_block (HB6.out.block g HLG.out)).trans HG.out
  obtain ⟨d0, d1, d2, _⟩ := cells3 hN5
  clear hb5 hN5
  go_wp2_with fail
  refine hK.out _ _ (⟨f0, f1, d0, d1, d2⟩) (fun hHeld => ?_)
  clear hK K
  try simp only [Act.put, List.setIfInBounds_toArray, List.set_cons_zero, List.set_cons_succ]
  refine H_on 5 9 ?vc585 rfl rfl (by kernel_rfl) (by kernel_rfl) (by kernel_rfl) (by rfl) ?hc585 hHeld ?rc585
  case hc585 => (intro w hSw; obtain ⟨s0, s1, s2, s3, s4⟩ := hSw; go_simp <;> with_reducible rfl)
  simp only [Act.put, List.setIfInBounds_toArray, List.set_cons_zero, List.set_cons_succ]
  refine H_on 6 3 ?vc586 rfl rfl (by kernel_rfl) (by kernel_rfl) (by kernel_rfl) (by rfl) ?hc586 hHeld ?rc586
  case hc586 => (intro w hSw; obtain ⟨s0, s1, s2, s3, s4⟩ := hSw; go_simp <;> with_reducible rfl)
  simp only [Act.put, List.setIfInBounds_toArray, List.set_cons_zero, List.set_cons_succ]
  refine wpAnyH_done (by kernel_rfl) ?_ _
  refine NoPanic.normal ?_
  clear hHeld
  go_wp2
  go_ret
  exact ⟨rfl, HB6.out⟩
theorem rem_calls (n : Int) (A : Option Addr) (c : Nat) (l : List S44) (W : World) (hr : Kd.C k44 W A l.length l) (hc : l.length ≤ c) : Calls Tryd.prog 56 #[.int .i64 n, .slice A l.length c] W fun e w' => e = .returned (.int .i64 (listE n l)) ∧ Below W.heap.size W w' := by
  obtain ⟨k, hk⟩ := rem_some n l
  exact (breed_remembered.calls k n A c l _ W hr hc hk).mono fun _ _ ⟨p, q⟩ => ⟨p, q⟩
/-! ### Shows -/
def showsE (n : Int) (L : List UInt8) (l : List S44) : Bool × Int := match parseE n L with
  | none => (false, errT n)
  | some t => if listE n l = 0 then (l.all (showsT t), 0) else (false, listE n l)
theorem all_any (t : BT) (l : List S44) : (!l.any fun x => !showsT t x) = l.all (showsT t) := by
  induction l with
  | nil => rfl
  | cons x l ih => rw [List.any_cons, List.all_cons, Bool.not_or, ih, Bool.not_not]
set_option maxRecDepth 100000 in
set_option maxHeartbeats 3200000 in
theorem Shows_calls (n : Int) (L : List UInt8) (A : Option Addr) (c : Nat) (l : List S44) (W : World) (hr : Kd.C k44 W A l.length l) (hc : l.length ≤ c) (hT : TabAt W) :
    Calls Tryd.prog 28 #[.int .i64 n, .string (strB L), .slice A l.length c] W fun e w' => e = .returned (.tuple #[.bool (showsE n L l).1, .int .i64 (showsE n L l).2]) ∧ Below W.heap.size W w' := by
  have HT := Aside0.mk hT
  have HR := Aside0.mk hr
  obtain ⟨Z, hZ⟩ : ∃ Z, showsE n L l = Z := ⟨_, rfl⟩
  rw [hZ]
  unfold showsE at hZ
  have HC : Aside0 (Calls Tryd.prog 52 #[.int .i64 n, .slice (some ⟨W.heap.size, 0, none⟩) 1 1] (W.alloc (.cells #[.string (strB L)] 9)) fun e w' => ((parseE n L = none ∧ e = .returned (.tuple #[.slice none 0 0, .int .i64 (errT n)])) ∨
      ∃ (t : BT) (g cap : Nat) (T : TypeId) (u : Value), parseE n L = some t ∧ e = .returned (.tuple #[.slice (some ⟨g, 0, none⟩) 1 cap, .int .i64 0]) ∧ w'.cell? ⟨g, 0, none⟩ = some (.iface T u) ∧ TrV w' (fun _ => True) (.iface T u) t) ∧ Below W.heap.size W w') :=
    ⟨(read_one n W.heap.size 1 L _ (blk_cell (heap_alloc_new W (.cells #[.string (strB L)] 9)) 0) (HT.out.next ((Below.refl _ _).alloc (Nat.le_refl _) _))).mono fun e w' ⟨h1, h2⟩ => ⟨h1, below_then ((Below.refl _ W).alloc (Nat.le_refl _) _) ((Below.refl _ W).alloc (Nat.le_refl _) _).size h2⟩⟩
  generalize strB L = sb at HC ⊢
  have he0 := errT_ne n
  obtain ⟨e1, e2⟩ := errne he0
  have HREM : Aside0 (∀ w, Below W.heap.size W w → Calls Tryd.prog 56 #[.int .i64 n, .slice A l.length c] w fun e w' => e = .returned (.int .i64 (listE n l)) ∧ Below w.heap.size w w') := ⟨fun w hb => rem_calls n A c l w (Kd.C_below HR.out hb) hc⟩
  obtain ⟨len, hlen⟩ : ∃ len, l.length = len := ⟨_, rfl⟩
  have HL := Aside0.mk hlen
  rw [hlen] at HREM HR ⊢
  clear hr hc hlen
  cases hp : parseE n L with
  | none =>
    rw [hp] at hZ
    dsimp only at hZ
    subst hZ
    have HC2 : Aside0 (Calls Tryd.prog 52 #[.int .i64 n, .slice (some ⟨W.heap.size, 0, none⟩) 1 1] (W.alloc (.cells #[.string sb] 9)) fun e w' => e = .returned (.tuple #[.slice none 0 0, .int .i64 (errT n)]) ∧ Below W.heap.size W w') := ⟨HC.out.mono (by
      rintro e w' ⟨⟨_, h⟩ | ⟨t, _, _, _, _, h, _⟩, hb⟩
      · exact ⟨h, hb⟩
      · rw [hp] at h; cases h)⟩
    clear HC hp he0
    generalize errT n = E at *
    go_enter Tryd.func28, Tryd.ntmps28
    go_wp2_with (go_at_call 52; go_must (refine HC2.out.mono ?_; rintro e w1 ⟨rfl, hb1⟩; have HB1 := Aside0.mk hb1; clear hb1))
    go_ret2
    exact ⟨rfl, below_alloc HB1.out _⟩
  | some t =>
    rw [hp] at hZ
    dsimp only at hZ
    obtain ⟨hn1, hn8, hgt, hst⟩ := parseE_good hp
    have HG := Aside0.mk hgt
    have HC2 : Aside0 (Calls Tryd.prog 52 #[.int .i64 n, .slice (some ⟨W.heap.size, 0, none⟩) 1 1] (W.alloc (.cells #[.string sb] 9)) fun e w' => ∃ (g cap : Nat) (T : TypeId) (u : Value), e = .returned (.tuple #[.slice (some ⟨g, 0, none⟩) 1 cap, .int .i64 0]) ∧ w'.cell? ⟨g, 0, none⟩ = some (.iface T u) ∧ TrV w' (fun _ => True) (.iface T u) t ∧ Below W.heap.size W w') := ⟨HC.out.mono (by
      rintro e w' ⟨⟨h, _⟩ | ⟨t', g, cap, T, u, h, h1, h2, h3⟩, hb⟩
      · rw [hp] at h; cases h
      · rw [hp] at h; cases h; exact ⟨g, cap, T, u, h1, h2, h3, hb⟩)⟩
    clear HC hp he0 e1 e2 hst hgt
    by_cases h0 : listE n l = 0
    · rw [if_pos h0] at hZ
      rw [h0] at HREM
      obtain ⟨_, hok⟩ := listE_zero h0
      have HT8 : Aside0 (∀ x ∈ l, Tri8 x) := ⟨fun x hx => okTri_8 (by omega) (hok x hx)⟩
      have HZ := Aside0.mk hZ
      clear h0 hok hZ
      go_enter Tryd.func28, Tryd.ntmps28
      go_upto_region 2 with (go_at_call 52; go_must (refine HC2.out.mono ?_; rintro e w1 ⟨g, cap, T, u, rfl, hc1, ht1, hb1⟩; have HCG := Aside0.mk hc1; have HTV := Aside0.mk ht1; have HB1 := Aside0.mk hb1; clear hc1 ht1 hb1))
      have HN8 : Aside0 ((w1.alloc (.cells #[.slice (some ⟨g, 0, none⟩) 1 cap] 79)).heap[w1.heap.size]? = some (.cells #[.slice (some ⟨g, 0, none⟩) 1 cap] 79 (0, 0))) := ⟨heap_alloc_new w1 _⟩
      have HBA : Aside0 (Below w1.heap.size w1 (w1.alloc (.cells #[.slice (some ⟨g, 0, none⟩) 1 cap] 79))) := ⟨(Below.refl _ _).alloc (Nat.le_refl _) _⟩
      have HLG : Aside0 (g < w1.heap.size) := ⟨World.block_lt_of_cell? w1 _ HCG.out⟩
      generalize w1.alloc (.cells #[.slice (some ⟨g, 0, none⟩) 1 cap] 79) = w2 at HN8 HBA ⊢
      generalize hb8 : w1.heap.size = b8 at HN8 ⊢
      have HB2 := Aside0.mk (below_then HB1.out HB1.out.size HBA.out)
      have HCT : Aside0 (∀ w, Below w2.heap.size w2 w → Calls Tryd.prog 57 #[.slice A len c, .func (.func 58) #[] #[.pointer (some ⟨b8, 0, none⟩)]] w fun e w' => e = .returned (.bool (l.any fun x => !showsT t x)) ∧ Below w.heap.size w w') := ⟨fun w hb =>
        ContainsFunc_tri 58 #[.pointer (some ⟨b8, 0, none⟩)] (fun x => !showsT t x) enters58 A len c l w (Kd.C_below HR.out (below_then HB2.out HB2.out.size hb))
          (clo58_calls t HG.out l HT8.out b8 g cap T u (fun _ => True) w ((World.cell?_of_block (hb.block b8 (blk_lt HN8.out))).trans (blk_cell HN8.out 0)) ((World.cell?_of_block ((HBA.out.trans (hb.mono HBA.out.size)).block g HLG.out)).trans HCG.out) (HTV.out.below (HBA.out.trans (hb.mono HBA.out.size))))⟩
      go_wp2_with (first
        | (go_at_call 56; go_must (refine (HREM.out _ HB2.out).mono ?_; rintro e w3 ⟨rfl, hb3⟩; have HB3 := Aside0.mk hb3; clear hb3))
        | (go_at_call 57; go_must (refine (HCT.out _ HB3.out).mono ?_; rintro e w4 ⟨rfl, hb4⟩; have HB4 := Aside0.mk hb4; clear hb4)))
      go_ret2
      refine ⟨?_, below_then HB2.out HB2.out.size (HB3.out.trans (HB4.out.mono HB3.out.size))⟩
      rw [← HZ.out, ← all_any]
      rfl
    · rw [if_neg h0] at hZ
      subst hZ
      obtain ⟨e1, e2⟩ := errne h0
      clear h0
      generalize listE n l = E at *
      go_enter Tryd.func28, Tryd.ntmps28
      go_upto_region 2 with (go_at_call 52; go_must (refine HC2.out.mono ?_; rintro e w1 ⟨g, cap, T, u, rfl, hc1, ht1, hb1⟩; have HB1 := Aside0.mk hb1; clear hc1 ht1 hb1))
      have HB2 : Aside0 (Below W.heap.size W (w1.alloc (.cells #[.slice (some ⟨g, 0, none⟩) 1 cap] 79))) := ⟨below_alloc HB1.out _⟩
      generalize w1.alloc (.cells #[.slice (some ⟨g, 0, none⟩) 1 cap] 79) = w2 at HB2 ⊢
      go_wp2_with (go_at_call 56; go_must (refine (HREM.out _ HB2.out).mono ?_; rintro e w3 ⟨rfl, hb3⟩; have HB3 := Aside0.mk (below_then HB2.out HB2.out.size hb3); clear hb3))
      go_ret2
      exact ⟨rfl, HB3.out⟩
end Go.Proofs.YtdbbcngmnpejnaaDoor.B

/- The law package's small functions, as the kit's print writes them. -/
namespace Go.Proofs.YtdbbcngmnpejnaaDoor.B
open Go.Proofs.YtdbbcngmnpejnaaDoor.A
open Go.RowKit Go.Proofs.YtdbbcngmnpejnaaDoorW.PrintWords Go.Proofs.YtdbbcngmnpejnaaDoorW.PrintLast Go.Proofs.YtdbbcngmnpejnaaDoorW.PrintMore
section
attribute [local go_sem] max2_int min2_int max_two min_two max_three min_three max_four min_four   -- for this text's walks alone
set_option linter.unusedVariables false
set_option linter.unusedSimpArgs false
attribute [local go_sem high] eqA44
/-! ### drovewaylaw05_few: function 16 -/
def drovewaylaw05_few.f (l0 : List (S44)) (a1 : ByteArray) : Option (Bool) := if (l0.length : Int) ≤ 100 then (some (decide ((a1.size : Int) ≤ 100))) else (some false)
set_option maxHeartbeats 8000000 in
set_option maxRecDepth 100000 in
theorem drovewaylaw05_few.calls (A0 : Option Addr) (c0 : Nat) (l0 : List (S44)) (a1 : ByteArray) (r : Bool) (w : World) (hr0 : Kd.C k44 w A0 l0.length l0) (hc0 : l0.length ≤ c0) (h : drovewaylaw05_few.f l0 a1 = some r) :
    Calls Tryd.prog 16 #[.slice A0 l0.length c0, .string a1] w fun e w' => e = .returned (.bool r) ∧ Drawn0 w w' := by
  have HR0 := Aside0.mk hr0
  have HC0 := Aside0.mk hc0
  clear hr0 hc0
  have H : (if (l0.length : Int) ≤ 100 then (some (decide ((a1.size : Int) ≤ 100))) else (some false)) = some r := h
  clear h
  by_cases c3 : (l0.length : Int) ≤ 100
  · rw [if_pos c3] at H
    have c3b0 : decide ((l0.length : Int) ≤ 100) = true := decide_eq_true c3
    have c3b1 : decide (l0.length ≤ 100) = true := decide_eq_true (by omega)
    clear c3
    obtain rfl := Option.some.inj H
    go_enter Tryd.func16, Tryd.ntmps16
    go_wp2
    go_ret
    exact ⟨by first | rfl | (simp; done) | (simp [*]; done), by repeat (first | exact Drawn0.refl _ | apply Drawn0.step)⟩
  · rw [if_neg c3] at H
    have c3b0 : decide ((l0.length : Int) ≤ 100) = false := decide_eq_false c3
    have c3b1 : decide (l0.length ≤ 100) = false := decide_eq_false (by omega)
    clear c3
    obtain rfl := Option.some.inj H
    go_enter Tryd.func16, Tryd.ntmps16
    go_wp2
    go_ret
    exact ⟨by first | rfl | (simp; done) | (simp [*]; done), by repeat (first | exact Drawn0.refl _ | apply Drawn0.step)⟩

/-! ### drovewaylaw05_same: function 23 -/
def drovewaylaw05_same.l0 : Nat → List (S44) → List (S44) → Int → Option (Bool)
  | 0, _, _, _ => none
  | k + 1, x0, x1, x5 => if x5 < (x0.length : Int) then (if 0 ≤ x5 then (if x5 < (x1.length : Int) then (if (!(((rd_T44 x0 x5).f0) == ((rd_T44 x1 x5).f0)) || (!(((rd_T44 x0 x5).f1) == ((rd_T44 x1 x5).f1)) || (!(((rd_T44 x0 x5).f2) == ((rd_T44 x1 x5).f2))))) = true then (some false) else (drovewaylaw05_same.l0 k x0 x1 (wrap64 (x5 + 1)))) else (none)) else (none)) else (some true)
def drovewaylaw05_same.f (k : Nat) (l0 : List (S44)) (l1 : List (S44)) : Option (Bool) := if (l0.length : Int) = (l1.length : Int) then (drovewaylaw05_same.l0 k l0 l1 0) else (some false)
set_option maxHeartbeats 8000000 in
set_option maxRecDepth 100000 in
theorem drovewaylaw05_same.calls (k : Nat) (A0 : Option Addr) (c0 : Nat) (l0 : List (S44)) (A1 : Option Addr) (c1 : Nat) (l1 : List (S44)) (r : Bool) (w : World) (hr0 : Kd.C k44 w A0 l0.length l0) (hc0 : l0.length ≤ c0) (hr1 : Kd.C k44 w A1 l1.length l1) (hc1 : l1.length ≤ c1) (h : drovewaylaw05_same.f k l0 l1 = some r) :
    Calls Tryd.prog 23 #[.slice A0 l0.length c0, .slice A1 l1.length c1] w fun e w' => e = .returned (.bool r) ∧ Drawn0 w w' := by
  have hu44 := Tryd.underlying44
  have HR0 := Aside0.mk hr0
  have HC0 := Aside0.mk hc0
  clear hr0 hc0
  have HR1 := Aside0.mk hr1
  have HC1 := Aside0.mk hc1
  clear hr1 hc1
  have H : (if (l0.length : Int) = (l1.length : Int) then (drovewaylaw05_same.l0 k l0 l1 0) else (some false)) = some r := h
  clear h
  by_cases c3 : (l0.length : Int) = (l1.length : Int)
  · rw [if_pos c3] at H
    have c3b0 : ((l0.length : Int) == (l1.length : Int)) = true := beq_iff_eq.mpr c3
    have c3b1 : ((l0.length : Int) != (l1.length : Int)) = false := bne_eq_false_iff_eq.mpr c3
    have c3b2 : (l0.length == l1.length) = true := by first | simpa using c3 | (simp at c3 ⊢; omega)
    clear c3
    have H' := Aside0.mk H
    clear H
    go_enter Tryd.func23, Tryd.ntmps23
    go_wp2
    repeat (go_quiet (fail); try go_wp2)
    go_loopg [5] k (fun kq v5 w' => ∃ (x5_1 : Int), v5 = .int .i64 x5_1 ∧ Aside0 (drovewaylaw05_same.l0 kq l0 l1 x5_1 = some r) ∧ Aside0 (kq ≤ k) ∧ Drawn0 w w')
    case atStart => exact ⟨(0), (by first | rfl | (simp; done) | (simp [*]; done)), H', ⟨Nat.le_refl _⟩, by repeat (first | exact Drawn0.refl _ | apply Drawn0.step)⟩
    case round =>
      clear H'
      try clear c1
      try clear c2
      try clear p2
      try clear c3
      try clear c3b0
      try clear c3b1
      try clear c3b2
      obtain ⟨x5_1, rfl, HA, HK1, ⟨m1, rfl⟩⟩ := hrel
      cases gk with
      | zero => exact absurd HA.out (by simp [drovewaylaw05_same.l0])
      | succ k1 =>
        have H := HA.out
        clear HA
        simp only [drovewaylaw05_same.l0] at H
        by_cases c4 : x5_1 < (l0.length : Int)
        · rw [if_pos c4] at H
          have c4b0 : decide (x5_1 < (l0.length : Int)) = true := decide_eq_true c4
          clear c4
          by_cases c5 : 0 ≤ x5_1
          · rw [if_pos c5] at H
            have c5b0 : decide (0 ≤ x5_1) = true := decide_eq_true c5
            clear c5
            by_cases c6 : x5_1 < (l1.length : Int)
            · rw [if_pos c6] at H
              have c6b0 : decide (x5_1 < (l1.length : Int)) = true := decide_eq_true c6
              clear c6
              by_cases c7 : (!(((rd_T44 l0 x5_1).f0) == ((rd_T44 l1 x5_1).f0)) || (!(((rd_T44 l0 x5_1).f1) == ((rd_T44 l1 x5_1).f1)) || (!(((rd_T44 l0 x5_1).f2) == ((rd_T44 l1 x5_1).f2))))) = true
              · rw [if_pos c7] at H
                have c7b0 : (!(((rd_T44 l0 x5_1).f0) == ((rd_T44 l1 x5_1).f0)) || (!(((rd_T44 l0 x5_1).f1) == ((rd_T44 l1 x5_1).f1)) || (!(((rd_T44 l0 x5_1).f2) == ((rd_T44 l1 x5_1).f2))))) = true := c7
                clear c7
                obtain rfl := Option.some.inj H
                have p253 : 0 ≤ (x5_1 : Int) := of_decide_eq_true (by first | (with_reducible assumption) | assumption)
                have q253 : x5_1 < (l0.length : Int) := of_decide_eq_true (by first | (with_reducible assumption) | assumption)
                obtain ⟨ad253, e253, hx253_0, hx253_1, hx253_2⟩ := at_T44 HR0.out x5_1 p253 q253
                cases e253
                replace p253 := eq_true p253
                replace q253 := eq_true q253
                have p254 : 0 ≤ (x5_1 : Int) := of_decide_eq_true (by first | (with_reducible assumption) | assumption)
                have q254 : x5_1 < (l1.length : Int) := of_decide_eq_true (by first | (with_reducible assumption) | assumption)
                obtain ⟨ad254, e254, hx254_0, hx254_1, hx254_2⟩ := at_T44 HR1.out x5_1 p254 q254
                cases e254
                replace p254 := eq_true p254
                replace q254 := eq_true q254
                go_wp2
                repeat (go_quiet (fail); try go_wp2)
                go_ret
                exact ⟨by first | rfl | (simp; done) | (simp [*]; done), by repeat (first | exact Drawn0.refl _ | apply Drawn0.step)⟩
              · rw [if_neg c7] at H
                have c7b0 : (!(((rd_T44 l0 x5_1).f0) == ((rd_T44 l1 x5_1).f0)) || (!(((rd_T44 l0 x5_1).f1) == ((rd_T44 l1 x5_1).f1)) || (!(((rd_T44 l0 x5_1).f2) == ((rd_T44 l1 x5_1).f2))))) = false := by simpa using c7
                clear c7
                have H' := Aside0.mk H
                clear H
                have p253 : 0 ≤ (x5_1 : Int) := of_decide_eq_true (by first | (with_reducible assumption) | assumption)
                have q253 : x5_1 < (l0.length : Int) := of_decide_eq_true (by first | (with_reducible assumption) | assumption)
                obtain ⟨ad253, e253, hx253_0, hx253_1, hx253_2⟩ := at_T44 HR0.out x5_1 p253 q253
                cases e253
                replace p253 := eq_true p253
                replace q253 := eq_true q253
                have p254 : 0 ≤ (x5_1 : Int) := of_decide_eq_true (by first | (with_reducible assumption) | assumption)
                have q254 : x5_1 < (l1.length : Int) := of_decide_eq_true (by first | (with_reducible assumption) | assumption)
                obtain ⟨ad254, e254, hx254_0, hx254_1, hx254_2⟩ := at_T44 HR1.out x5_1 p254 q254
                cases e254
                replace p254 := eq_true p254
                replace q254 := eq_true q254
                go_wp2
                repeat (go_quiet (fail); try go_wp2)
                go_roundg k1
                case measure => have := HK1.out; omega
                case rel => exact ⟨(wrap64 (x5_1 + 1)), (by first | rfl | (simp; done) | (simp [*]; done)), H', ⟨by have := HK1.out; omega⟩, by repeat (first | exact Drawn0.refl _ | apply Drawn0.step)⟩
            · rw [if_neg c6] at H
              exact absurd H (by simp)
          · rw [if_neg c5] at H
            exact absurd H (by simp)
        · rw [if_neg c4] at H
          have c4b0 : decide (x5_1 < (l0.length : Int)) = false := decide_eq_false c4
          clear c4
          obtain rfl := Option.some.inj H
          go_wp2
          repeat (go_quiet (fail); try go_wp2)
          go_ret
          exact ⟨by first | rfl | (simp; done) | (simp [*]; done), by repeat (first | exact Drawn0.refl _ | apply Drawn0.step)⟩
  · rw [if_neg c3] at H
    have c3b0 : ((l0.length : Int) == (l1.length : Int)) = false := beq_eq_false_iff_ne.mpr c3
    have c3b1 : ((l0.length : Int) != (l1.length : Int)) = true := bne_iff_ne.mpr c3
    have c3b2 : (l0.length == l1.length) = false := by first | simpa using c3 | (simp at c3 ⊢; omega)
    obtain rfl := Option.some.inj H
    go_enter Tryd.func23, Tryd.ntmps23
    go_wp2
    repeat (go_quiet (fail); try go_wp2)
    go_ret
    exact ⟨by first | rfl | (simp; done) | (simp [*]; done), by repeat (first | exact Drawn0.refl _ | apply Drawn0.step)⟩

end
end Go.Proofs.YtdbbcngmnpejnaaDoor.B

/- few, same, IsTriple, List, given: what they answer, plain. -/
namespace Go.Proofs.YtdbbcngmnpejnaaDoor.B
open Go.Proofs.YtdbbcngmnpejnaaDoor.A
open Go.RowKit Go.Proofs.YtdbbcngmnpejnaaDoorW.PrintWords Go.Proofs.YtdbbcngmnpejnaaDoorW.PrintMore
theorem s44_ext {a b : S44} : a = b ↔ a.f0 = b.f0 ∧ a.f1 = b.f1 ∧ a.f2 = b.f2 := by
  obtain ⟨a0, a1, a2⟩ := a
  obtain ⟨b0, b1, b2⟩ := b
  simp
instance : DecidableEq S44 := fun _ _ => decidable_of_iff _ s44_ext.symm
theorem few_calls (A : Option Addr) (c : Nat) (l : List S44) (s : ByteArray) (w : World) (hr : Kd.C k44 w A l.length l) (hc : l.length ≤ c) :
    Calls Tryd.prog 16 #[.slice A l.length c, .string s] w fun e w' => e = .returned (.bool (decide (l.length ≤ 100 ∧ s.size ≤ 100))) ∧ Below w.heap.size w w' := by
  refine (drovewaylaw05_few.calls A c l s (decide (l.length ≤ 100 ∧ s.size ≤ 100)) w hr hc ?_).mono fun _ _ ⟨p, q⟩ => ⟨p, q.below⟩
  unfold drovewaylaw05_few.f
  by_cases h : l.length ≤ 100
  · rw [if_pos (by omega)]
    congr 1
    simp only [decide_eq_decide]
    omega
  · rw [if_neg (by omega), decide_eq_false (fun h2 => h h2.1)]
theorem triple_some (n : Int) (t : S44) : drovewayref05_IsTriple.f n t.f0 t.f1 t.f2 = some (okTri n t) := by
  unfold drovewayref05_IsTriple.f okTri
  by_cases h1 : 0 ≤ t.f0
  · rw [if_pos h1, decide_eq_true h1]
    by_cases h2 : t.f0 < t.f1
    · rw [if_pos h2, decide_eq_true h2]
      by_cases h3 : t.f1 < n
      · rw [if_pos h3, decide_eq_true h3]
        by_cases h4 : 0 ≤ t.f2
        · rw [if_pos h4, decide_eq_true h4]
          by_cases h5 : t.f2 < n
          · rw [if_pos h5, decide_eq_true h5]
            by_cases h6 : t.f2 = t.f0
            · rw [if_pos h6, decide_eq_false (show ¬ t.f2 ≠ t.f0 from fun h => h h6)]; rfl
            · rw [if_neg h6, decide_eq_true (show t.f2 ≠ t.f0 from h6)]
              by_cases h7 : t.f2 = t.f1
              · rw [decide_eq_false (show ¬ t.f2 ≠ t.f1 from fun h => h h7), bne_eq_false_iff_eq.mpr h7]; rfl
              · rw [decide_eq_true (show t.f2 ≠ t.f1 from h7), bne_iff_ne.mpr h7]; rfl
          · rw [if_neg h5, decide_eq_false h5]; rfl
        · rw [if_neg h4, decide_eq_false h4]; rfl
      · rw [if_neg h3, decide_eq_false h3]; rfl
    · rw [if_neg h2, decide_eq_false h2]; rfl
  · rw [if_neg h1, decide_eq_false h1]; rfl
theorem list_loop (n : Int) (l : List S44) (hl : l.length ≤ 60) : ∀ d i : Nat, i + d = l.length → drovewayref05_List.l0 (d + 1) n l (i : Int) = some (if (l.drop i).all (okTri n) = true then 0 else 2)
  | 0, i, h => by
    rw [drovewayref05_List.l0, if_neg (by omega), List.drop_of_length_le (by omega)]
    rfl
  | d + 1, i, h => by
    have hi : i < l.length := by omega
    have hw : wrap64 ((i : Int) + 1) = ((i + 1 : Nat) : Int) := by unfold wrap64; omega
    have hrd : rd_T44 l (i : Int) = l[i] := by simp only [rd_T44, Int.toNat_natCast, List.getD_eq_getElem?_getD, List.getElem?_eq_getElem hi, Option.getD_some]
    rw [drovewayref05_List.l0, if_pos (by omega), if_pos (by omega), hrd, triple_some, Option.bind_some, hw, list_loop n l hl d (i + 1) (by omega), List.drop_eq_getElem_cons hi, List.all_cons]
    cases okTri n l[i] with
    | true => rw [if_pos rfl, Bool.true_and]
    | false => rw [if_neg Bool.false_ne_true, Bool.false_and, if_neg Bool.false_ne_true]
theorem list_some (n : Int) (l : List S44) : ∃ k, drovewayref05_List.f k n l = some (listE n l) := by
  unfold drovewayref05_List.f listE
  by_cases h : 60 < l.length
  · exact ⟨0, by rw [if_pos (by omega), if_pos h]⟩
  · refine ⟨l.length + 1, ?_⟩
    rw [if_neg (by omega), if_neg h]
    have := list_loop n l (by omega) l.length 0 (by omega)
    rw [List.drop_zero] at this
    exact this
theorem same_loop (l m : List S44) (hl : l.length = m.length) (hb : l.length ≤ 9223372036854775807) : ∀ d i : Nat, i + d = l.length → drovewaylaw05_same.l0 (d + 1) l m (i : Int) = some (decide (l.drop i = m.drop i))
  | 0, i, h => by
    rw [drovewaylaw05_same.l0, if_neg (by omega), List.drop_of_length_le (by omega), List.drop_of_length_le (by omega)]
    rfl
  | d + 1, i, h => by
    have hi : i < l.length := by omega
    have hi2 : i < m.length := by omega
    have hw : wrap64 ((i : Int) + 1) = ((i + 1 : Nat) : Int) := by unfold wrap64; omega
    have hrd : rd_T44 l (i : Int) = l[i] := by simp only [rd_T44, Int.toNat_natCast, List.getD_eq_getElem?_getD, List.getElem?_eq_getElem hi, Option.getD_some]
    have hrd2 : rd_T44 m (i : Int) = m[i] := by simp only [rd_T44, Int.toNat_natCast, List.getD_eq_getElem?_getD, List.getElem?_eq_getElem hi2, Option.getD_some]
    rw [drovewaylaw05_same.l0, if_pos (by omega), if_pos (by omega), if_pos (by omega), hrd, hrd2, hw, same_loop l m hl hb d (i + 1) (by omega), List.drop_eq_getElem_cons hi, List.drop_eq_getElem_cons hi2]
    generalize l[i] = a
    generalize m[i] = b
    by_cases e : a = b
    · subst e
      rw [if_neg (by simp)]
      congr 1
      simp
    · have e2 := fun h => e (s44_ext.mpr h)
      rw [if_pos (by
        rw [Bool.or_eq_true, Bool.or_eq_true, Bool.not_eq_true', Bool.not_eq_true', Bool.not_eq_true', beq_eq_false_iff_ne, beq_eq_false_iff_ne, beq_eq_false_iff_ne]
        by_cases e3 : a.f0 = b.f0
        · by_cases e4 : a.f1 = b.f1
          · by_cases e5 : a.f2 = b.f2
            · exact absurd ⟨e3, e4, e5⟩ e2
            · exact .inr (.inr e5)
          · exact .inr (.inl e4)
        · exact .inl e3), decide_eq_false (by intro h; injection h with h1 h2; exact e h1)]
theorem same_calls (A : Option Addr) (c : Nat) (l : List S44) (A2 : Option Addr) (c2 : Nat) (m : List S44) (w : World) (hr : Kd.C k44 w A l.length l) (hc : l.length ≤ c) (hr2 : Kd.C k44 w A2 m.length m) (hc2 : m.length ≤ c2) :
    Calls Tryd.prog 23 #[.slice A l.length c, .slice A2 m.length c2] w fun e w' => e = .returned (.bool (decide (l = m))) ∧ Below w.heap.size w w' := by
  refine (drovewaylaw05_same.calls (l.length + 1) A c l A2 c2 m (decide (l = m)) w hr hc hr2 hc2 ?_).mono fun _ _ ⟨p, q⟩ => ⟨p, q.below⟩
  unfold drovewaylaw05_same.f
  by_cases h : l.length = m.length
  · have := same_loop l m h (by have := hr.2.1; omega) l.length 0 (by omega)
    rw [List.drop_zero, List.drop_zero] at this
    rw [if_pos (by omega)]
    exact this
  · rw [if_neg (by omega), decide_eq_false (fun e => h (by rw [e]))]
end Go.Proofs.YtdbbcngmnpejnaaDoor.B

/- The reference's family, shows and Shows, as printed, plain: what the program's give. -/
namespace Go.Proofs.YtdbbcngmnpejnaaDoor.B
open Go.Proofs.YtdbbcngmnpejnaaDoor.A
open Go.RowKit Go.Proofs.YtdbbcngmnpejnaaDoorW.PrintWords Go.Proofs.YtdbbcngmnpejnaaDoorW.PrintMore
theorem rd_nd {ks : List BT} {i : Nat} (h : i < ks.length) : rd_T85 (ks.map ndS) (i : Int) = ndS ks[i] := by
  simp only [rd_T85, Int.toNat_natCast, List.getD_eq_getElem?_getD, List.getElem?_map, List.getElem?_eq_getElem h]
  rfl
theorem family_ev (b : Nat) (hb : b < 256) (t : BT) : t.Good → Ev (fun k => drovewayref05_family.f k ((t.set : Nat) : Int) (ndS t).f1 (b : Int)) ((BT.common b t : Nat) : Int) := by
  refine BT.ind (P := fun t => t.Good → Ev (fun k => drovewayref05_family.f k ((t.set : Nat) : Int) (ndS t).f1 (b : Int)) ((BT.common b t : Nat) : Int)) (fun i hi => ?_) (fun ks ih hg => ?_) t
  · rw [nd_leaf, set_leaf, common_leaf]
    refine Ev.step (fun k => by rw [drovewayref05_family.f]) (Ev.step (f := fun _ => some _) (fun k => ?_) (Ev.now _))
    rw [drovewayref05_family.l0, if_neg (by simp)]
  · rw [nd_node, set_node, BT.common]
    obtain ⟨h2, hks, hpw⟩ := good_node.mp hg
    have hl8 := kids_le hg
    have HL := Aside0.mk (show (ks.map ndS).length = ks.length from List.length_map _)
    have hloop : ∀ d i : Nat, i + d = ks.length → Ev (fun k => drovewayref05_family.l0 k (b : Int) (i : Int) ((BT.sets ks : Nat) : Int) (ks.map ndS)) ((BT.commons b (BT.sets ks) (ks.drop i) : Nat) : Int) := by
      intro d
      induction d with
      | zero =>
        intro i h
        rw [List.drop_of_length_le (by omega), BT.commons]
        refine Ev.step (f := fun _ => some _) (fun k => ?_) (Ev.now _)
        rw [drovewayref05_family.l0, HL.out, if_neg (by omega)]
      | succ d ihd =>
        intro i h
        have hi : i < ks.length := by omega
        have HW := Aside0.mk (show wrap64 ((i : Int) + 1) = ((i + 1 : Nat) : Int) by unfold wrap64; omega)
        have hk := hks _ (List.getElem_mem hi)
        have hk8 := good_256 hk
        have HN := Aside0.mk (not_cast hb hk8)
        rw [List.drop_eq_getElem_cons hi, BT.commons]
        by_cases e : hasB b ks[i].set = true
        · rw [if_pos e]
          have h0 := diff_zero.mpr e
          refine Ev.step (fun k => ?_) (Ev.bind (f := fun _ x => some x) (ih _ (List.getElem_mem hi) hk) (Ev.now _))
          rw [drovewayref05_family.l0, HL.out, if_pos (by omega), if_pos (by omega), rd_nd hi, nd_set, HN.out, h0, if_pos (by omega)]
        · rw [if_neg e]
          have h0 : diffN b ks[i].set ≠ 0 := fun h => e (diff_zero.mp h)
          refine Ev.step (fun k => ?_) (ihd (i + 1) (by omega))
          rw [drovewayref05_family.l0, HL.out, if_pos (by omega), if_pos (by omega), rd_nd hi, nd_set, HN.out, if_neg (by omega), HW.out]
    have := hloop ks.length 0 (by omega)
    rw [List.drop_zero] at this
    exact Ev.step (fun k => by rw [drovewayref05_family.f]; rfl) this
theorem shr_tab (q c : Nat) (hc : c < 8) : (Int.tmod (shr .i64 (q : Int) (c : Int)) 2 == 0) = !q.testBit c := by
  have e : shr .i64 (q : Int) (c : Int) = ((q / 2 ^ c : Nat) : Int) := by
    unfold shr
    rw [Int.toNat_natCast, Nat.min_eq_left (by show c ≤ 64; omega), two_cast, ← Int.natCast_ediv]
  rw [e, Nat.testBit_eq_decide_div_mod_eq, Int.tmod_eq_emod_of_nonneg (Int.natCast_nonneg _)]
  generalize q / 2 ^ c = z
  by_cases h : z % 2 = 1
  · rw [decide_eq_true h, beq_eq_false_iff_ne.mpr (by omega)]; rfl
  · rw [decide_eq_false h, beq_iff_eq.mpr (by omega)]; rfl
theorem rshows_ev {t : BT} (hg : t.Good) {x : S44} (hx : Tri8 x) : Ev (fun k => drovewayref05_shows.f k ((t.set : Nat) : Int) (ndS t).f1 x.f0 x.f1 x.f2) (showsT t x) := by
  obtain ⟨ha, hb, hc⟩ := tri_lt hx
  obtain ⟨⟨h00, _⟩, ⟨h10, _⟩, ⟨h20, _⟩⟩ := hx
  obtain ⟨t0, t1, t2⟩ := x
  dsimp only at h00 h10 h20 ⊢
  obtain ⟨a, rfl⟩ := Int.eq_ofNat_of_zero_le h00
  obtain ⟨b, rfl⟩ := Int.eq_ofNat_of_zero_le h10
  obtain ⟨c, rfl⟩ := Int.eq_ofNat_of_zero_le h20
  have ha : a < 8 := ha
  have hb : b < 8 := hb
  have hc : c < 8 := hc
  have hij : 2 ^ a ||| 2 ^ b < 256 := Nat.or_lt_two_pow (n := 8) (two_256 ha) (two_256 hb)
  have hor := low_or (two_256 ha) (two_256 hb)
  have he : showsT t ⟨(a : Int), (b : Int), (c : Int)⟩ = !(BT.common (2 ^ a ||| 2 ^ b) t).testBit c := rfl
  rw [he]
  refine Ev.congr (fun k => ?_) (Ev.bind (f := fun _ (q : Int) => some (Int.tmod (shr .i64 q (c : Int)) 2 == 0)) (family_ev _ hij t hg) (by rw [shr_tab _ c hc]; exact Ev.now _))
  unfold drovewayref05_shows.f
  rw [if_pos h00, if_pos h10, shl_one a ha, shl_one b hb, hor]
  simp only [if_pos h20]
theorem RShows_ev (n : Int) (S : List UInt8) (hS : S.length ≤ 1000000000) (l : List S44) : Ev (fun k => drovewayref05_Shows.f k n (strB S) l) (showsE n S l) := by
  have ha := asked_ev n S hS
  obtain ⟨kl, hkl⟩ := list_some n l
  have hli : Ev (fun k => drovewayref05_List.f k n l) (listE n l) := Ev.of (fun k => drovewayref05_List.mono _ _ k) hkl
  unfold askedR at ha
  unfold showsE
  cases hp : parseE n S with
  | none =>
    rw [hp] at ha
    have h0 := errT_ne n
    refine Ev.congr (fun k => by unfold drovewayref05_Shows.f; rfl) (Ev.bind ha ?_)
    refine Ev.congr (fun k => by rw [if_neg h0]) (Ev.step (f := fun _ => some (false, errT n)) (fun k => by rw [drovewayref05_Shows.j0, if_neg h0]) (Ev.now _))
  | some t =>
    rw [hp] at ha
    obtain ⟨hn1, hn8, hg, _⟩ := parseE_good hp
    refine Ev.congr (fun k => by unfold drovewayref05_Shows.f; rfl) (Ev.bind ha ?_)
    refine Ev.congr (fun k => by rw [if_pos rfl]) (Ev.bind (f := fun k e => drovewayref05_Shows.j0 k l e ((t.set : Nat) : Int) (ndS t).f1) hli ?_)
    by_cases h0 : listE n l = 0
    · obtain ⟨hl60, hok⟩ := listE_zero h0
      dsimp only
      rw [h0, if_pos rfl]
      have hloop : ∀ d i : Nat, i + d = l.length → Ev (fun k => drovewayref05_Shows.l0 k l (i : Int) ((t.set : Nat) : Int) (ndS t).f1) ((l.drop i).all (showsT t), 0) := by
        intro d
        induction d with
        | zero =>
          intro i h
          rw [List.drop_of_length_le (by omega)]
          refine Ev.step (f := fun _ => some (true, 0)) (fun k => ?_) (Ev.now _)
          rw [drovewayref05_Shows.l0, if_neg (by omega)]
        | succ d ihd =>
          intro i h
          have hi : i < l.length := by omega
          have HW := Aside0.mk (show wrap64 ((i : Int) + 1) = ((i + 1 : Nat) : Int) by unfold wrap64; omega)
          have hrd : rd_T44 l (i : Int) = l[i] := by simp only [rd_T44, Int.toNat_natCast, List.getD_eq_getElem?_getD, List.getElem?_eq_getElem hi, Option.getD_some]
          have hsh := rshows_ev hg (okTri_8 (by omega) (hok _ (List.getElem_mem hi)))
          rw [List.drop_eq_getElem_cons hi, List.all_cons]
          refine Ev.step (fun k => by rw [drovewayref05_Shows.l0, if_pos (by omega), if_pos (by omega), hrd, HW.out]) (Ev.bind hsh ?_)
          cases showsT t l[i] with
          | true =>
            rw [Bool.true_and]
            exact Ev.congr (fun k => by rw [if_pos rfl]) (ihd (i + 1) (by omega))
          | false =>
            rw [Bool.false_and]
            exact Ev.congr (f := fun _ => some (false, 0)) (fun k => by rw [if_neg Bool.false_ne_true]) (Ev.now _)
      have := hloop l.length 0 (by omega)
      rw [List.drop_zero] at this
      exact Ev.step (fun k => by rw [drovewayref05_Shows.j0, if_pos rfl]; rfl) this
    · dsimp only
      rw [if_neg h0]
      exact Ev.step (f := fun _ => some (false, listE n l)) (fun k => by rw [drovewayref05_Shows.j0, if_neg h0]) (Ev.now _)
theorem RShows_calls (n : Int) (S : List UInt8) (hS : S.length ≤ 1000000000) (A : Option Addr) (c : Nat) (l : List S44) (w : World) (hr : Kd.C k44 w A l.length l) (hc : l.length ≤ c) :
    Calls Tryd.prog 29 #[.int .i64 n, .string (strB S), .slice A l.length c] w fun e w' => e = .returned (.tuple #[.bool (showsE n S l).1, .int .i64 (showsE n S l).2]) ∧ Below w.heap.size w w' := by
  obtain ⟨k, hk⟩ := (RShows_ev n S hS l).rounds
  exact drovewayref05_Shows.calls k n (strB S) A c l _ _ w hr hc hk
end Go.Proofs.YtdbbcngmnpejnaaDoor.B

/- The reference's Count, as the kit's print writes it; its drawn region by hand. -/
namespace Go.Proofs.YtdbbcngmnpejnaaDoor.B
open Go.Proofs.YtdbbcngmnpejnaaDoor.A
open Go.RowKit Go.Proofs.YtdbbcngmnpejnaaDoorW.PrintWords Go.Proofs.YtdbbcngmnpejnaaDoorW.PrintLast Go.Proofs.YtdbbcngmnpejnaaDoorW.PrintMore
section
attribute [local go_sem] max2_int min2_int max_two min_two max_three min_three max_four min_four   -- for this text's walks alone
set_option linter.unusedVariables false
set_option linter.unusedSimpArgs false
/-! ### drovewayref05_Count: function 14 -/
mutual
def drovewayref05_Count.j0 : Nat → Int → Bool → Option (Int × Int)
  | 0, _, _ => none
  | k + 1, x0, x14 => if x14 = true then (some (0, 2)) else (drovewayref05_Count.l0 k x0 (([0, 1] : List Int)) (([1, 1] : List Int)) 2)
def drovewayref05_Count.l0 : Nat → Int → List Int → List Int → Int → Option (Int × Int)
  | 0, _, _, _, _ => none
  | k + 1, x0, x4, x5, x6 => if x6 ≤ x0 then (drovewayref05_Count.l1 k x0 x4 x5 x6 0 1) else (if 0 ≤ x0 then (if x0 < (x4.length : Int) then (some (rd x4 x0, 0)) else (none)) else (none))
def drovewayref05_Count.l1 : Nat → Int → List Int → List Int → Int → Int → Int → Option (Int × Int)
  | 0, _, _, _, _, _, _ => none
  | k + 1, x0, x4, x5, x6, x7, x8 => if x8 < x6 then ((drovewayref05_choose.f k (wrap64 (x6 - 1)) (wrap64 (x8 - 1))).bind fun t123 => (if 0 ≤ x8 then (if x8 < (x4.length : Int) then (if 0 ≤ (wrap64 (x6 - x8)) then (if (wrap64 (x6 - x8)) < (x5.length : Int) then (drovewayref05_Count.l1 k x0 x4 x5 x6 (wrap64 (x7 + (wrap64 ((wrap64 (t123 * (rd x4 x8))) * (rd x5 (wrap64 (x6 - x8))))))) (wrap64 (x8 + 1))) else (none)) else (none)) else (none)) else (none))) else (if x4.length < 17592186044416 then (if x5.length < 17592186044416 then (drovewayref05_Count.l0 k x0 (x4 ++ [x7]) (x5 ++ [wrap64 (2 * x7)]) (wrap64 (x6 + 1))) else (none)) else (none))
end
def drovewayref05_Count.f (k : Nat) (a0 : Int) : Option (Int × Int) := if a0 < 1 then (drovewayref05_Count.j0 k a0 true) else (drovewayref05_Count.j0 k a0 (decide (a0 > 8)))
end
end Go.Proofs.YtdbbcngmnpejnaaDoor.B

/- Count and the reference's Count give the same. -/
namespace Go.Proofs.YtdbbcngmnpejnaaDoor.B
open Go.Proofs.YtdbbcngmnpejnaaDoor.A
open Go.RowKit Go.Proofs.YtdbbcngmnpejnaaDoorW.PrintWords Go.Proofs.YtdbbcngmnpejnaaDoorW.PrintMore
def countE (n : Int) : Int × Int := if 1 ≤ n ∧ n ≤ 8 then (([0, 1, 1, 4, 26, 236, 2752, 39208, 660032] : List Int).getD n.toNat 0, 0) else (0, 2)
theorem count_in : (List.range 9).all (fun n => n == 0 || (decide (breed_Count.f 80 (n : Int) = some (countE n)) && decide (drovewayref05_Count.f 160 (n : Int) = some (countE n)))) = true := by decide +kernel
theorem count_some (n : Int) : ∃ k, breed_Count.f k n = some (countE n) := by
  by_cases h : 1 ≤ n ∧ n ≤ 8
  · have h1 := List.all_eq_true.1 count_in n.toNat (List.mem_range.2 (by omega))
    have h2 : ((n.toNat : Nat) : Int) = n := by omega
    have h3 : (n.toNat == 0) = false := by rw [beq_eq_false_iff_ne]; omega
    rw [h2, h3, Bool.false_or, Bool.and_eq_true, decide_eq_true_iff, decide_eq_true_iff] at h1
    exact ⟨80, h1.1⟩
  · refine ⟨1, ?_⟩
    unfold breed_Count.f breed_herd.f countE
    rw [if_neg h]
    by_cases h1 : n ≥ 1
    · rw [if_pos h1, Option.bind_some, if_neg (by rw [decide_eq_true_iff]; omega)]
    · rw [if_neg h1, Option.bind_some, if_neg Bool.false_ne_true]
theorem Count_calls (n : Int) (W : World) : Calls Tryd.prog 13 #[.int .i64 n] W fun e w' => e = .returned (.tuple #[.int .i64 (countE n).1, .int .i64 (countE n).2]) ∧ Below W.heap.size W w' := by
  obtain ⟨k, hk⟩ := count_some n
  exact (breed_Count.calls k n _ _ W hk).mono fun _ _ h => h
end Go.Proofs.YtdbbcngmnpejnaaDoor.B

/- alive: what every right program knows of a few beasts. -/
namespace Go.Proofs.YtdbbcngmnpejnaaDoor.B
open Go.Proofs.YtdbbcngmnpejnaaDoor.A
open Go.RowKit Go.Proofs.YtdbbcngmnpejnaaDoorW.PrintWords Go.Proofs.YtdbbcngmnpejnaaDoorW.PrintMore
/-- Two triples in a row that has just been made. -/
theorem two_reads (W : World) (a b : S44) : Kd.C k44 (W.alloc (.cells #[.int .i64 a.f0, .int .i64 a.f1, .int .i64 a.f2, .int .i64 b.f0, .int .i64 b.f1, .int .i64 b.f2] 44)) (some ⟨W.heap.size, 0, none⟩) 2 [a, b] := by
  refine ⟨rfl, by decide, fun _ => ⟨_, rfl, fun j p hj => ?_⟩⟩
  have hb := heap_alloc_new W (.cells #[.int .i64 a.f0, .int .i64 a.f1, .int .i64 a.f2, .int .i64 b.f0, .int .i64 b.f1, .int .i64 b.f2] 44)
  refine ⟨_, rfl, k44_mk _ p, fun i u hu => ?_⟩
  rw [add_plain, blk_cell hb]
  match j, hj, i, hu with
  | 0, hj, 0, hu => cases hj; exact hu
  | 0, hj, 1, hu => cases hj; exact hu
  | 0, hj, 2, hu => cases hj; exact hu
  | 1, hj, 0, hu => cases hj; exact hu
  | 1, hj, 1, hu => cases hj; exact hu
  | 1, hj, 2, hu => cases hj; exact hu
theorem alive_Build : buildE 4 [⟨0, 1, 2⟩, ⟨1, 2, 3⟩] = (⟨#[40, 40, 40, 48, 44, 49, 41, 44, 50, 41, 44, 51, 41]⟩, 0) := by kernel_rfl
theorem alive_Knot : knotE 3 [⟨0, 1, 2⟩, ⟨1, 2, 0⟩] = (7, 0) := by kernel_rfl
theorem sort_two {a b : BT} (h : low a.set ≤ low b.set) : sortB [a, b] = [a, b] := by
  unfold sortB
  refine List.mergeSort_of_pairwise ?_
  simp [h]
theorem alive_parse : parseE 4 [40, 40, 40, 48, 44, 49, 41, 44, 50, 41, 44, 51, 41] = some (.node [.node [.node [.leaf 0, .leaf 1], .leaf 2], .leaf 3]) := by kernel_rfl
theorem alive_text : (strB (BT.node [.node [.leaf 0, .leaf 2], .leaf 3]).text, (0 : Int)) = (⟨#[40, 40, 48, 44, 50, 41, 44, 51, 41]⟩, 0) := by kernel_rfl
theorem alive_Kept : keptE 4 [40, 40, 40, 48, 44, 49, 41, 44, 50, 41, 44, 51, 41] 13 = (⟨#[40, 40, 48, 44, 50, 41, 44, 51, 41]⟩, 0) := by
  unfold keptE
  rw [alive_parse]
  have h : BT.kept 13 (.node [.node [.node [.leaf 0, .leaf 1], .leaf 2], .leaf 3]) = some (.node [.node [.leaf 0, .leaf 2], .leaf 3]) := by
    have h0 : BT.kept 13 (.leaf 0) = some (.leaf 0) := by kernel_rfl
    have h1 : BT.kept 13 (.leaf 1) = none := by kernel_rfl
    have h2 : BT.kept 13 (.leaf 2) = some (.leaf 2) := by kernel_rfl
    have h3 : BT.kept 13 (.leaf 3) = some (.leaf 3) := by kernel_rfl
    have ha : BT.kept 13 (.node [.leaf 0, .leaf 1]) = some (.leaf 0) := by
      rw [BT.kept, BT.keptL, h0, BT.keptL, h1, BT.keptL]; rfl
    have hb : BT.kept 13 (.node [.node [.leaf 0, .leaf 1], .leaf 2]) = some (.node [.leaf 0, .leaf 2]) := by
      rw [BT.kept, BT.keptL, ha, BT.keptL, h2, BT.keptL]
      show some (BT.node (sortB _)) = _
      rw [sort_two (by decide +kernel)]
    rw [BT.kept, BT.keptL, hb, BT.keptL, h3, BT.keptL]
    show some (BT.node (sortB _)) = _
    rw [sort_two (by decide +kernel)]
  simp only []
  rw [if_pos (by decide), show (13 : Int).toNat = 13 from rfl, h]
  exact alive_text
theorem alive_Family : familyE 3 [40, 40, 48, 44, 49, 41, 44, 50, 41] 0 1 = (3, 0) := by kernel_rfl

set_option maxRecDepth 100000 in
set_option maxHeartbeats 3200000 in
theorem alive_calls (w : World) (hT : TabAt w) : Calls Tryd.prog 15 #[] w fun e w' => e = .returned (.bool true) ∧ Below w.heap.size w w' := by
  have HT := Aside0.mk hT
  have HB := Aside0.mk (Below.refl w.heap.size w)
  have H1 : Aside0 (∀ W, TabAt W → Calls Tryd.prog 17 #[.int .i64 4, .slice (some ⟨W.heap.size, 0, none⟩) 2 2] (W.alloc (.cells #[.int .i64 0, .int .i64 1, .int .i64 2, .int .i64 1, .int .i64 2, .int .i64 3] 44)) fun e w' => e = .returned (.tuple #[.string ⟨#[40, 40, 40, 48, 44, 49, 41, 44, 50, 41, 44, 51, 41]⟩, .int .i64 0]) ∧ Below W.heap.size W w') := ⟨fun W hT => by
    have := Build_calls 4 (some ⟨W.heap.size, 0, none⟩) 2 [⟨0, 1, 2⟩, ⟨1, 2, 3⟩] _ (two_reads W ⟨0, 1, 2⟩ ⟨1, 2, 3⟩) (by decide) (hT.next ((Below.refl _ _).alloc (Nat.le_refl _) _))
    rw [alive_Build] at this
    exact this.mono fun e w' ⟨h1, h2⟩ => ⟨h1, below_then ((Below.refl _ W).alloc (Nat.le_refl _) _) ((Below.refl _ W).alloc (Nat.le_refl _) _).size h2⟩⟩
  have H2 : Aside0 (∀ W, Calls Tryd.prog 19 #[.int .i64 3, .slice (some ⟨W.heap.size, 0, none⟩) 2 2] (W.alloc (.cells #[.int .i64 0, .int .i64 1, .int .i64 2, .int .i64 1, .int .i64 2, .int .i64 0] 44)) fun e w' => e = .returned (.tuple #[.int .i64 7, .int .i64 0]) ∧ Below W.heap.size W w') := ⟨fun W => by
    have := Knot_calls 3 (some ⟨W.heap.size, 0, none⟩) 2 [⟨0, 1, 2⟩, ⟨1, 2, 0⟩] _ (two_reads W ⟨0, 1, 2⟩ ⟨1, 2, 0⟩) (by decide)
    rw [alive_Knot] at this
    exact this.mono fun e w' ⟨h1, h2⟩ => ⟨h1, below_then ((Below.refl _ W).alloc (Nat.le_refl _) _) ((Below.refl _ W).alloc (Nat.le_refl _) _).size h2⟩⟩
  have H3 : Aside0 (∀ W, Calls Tryd.prog 13 #[.int .i64 5] W fun e w' => e = .returned (.tuple #[.int .i64 236, .int .i64 0]) ∧ Below W.heap.size W w') := ⟨fun W => Count_calls 5 W⟩
  have H4 : Aside0 (∀ W, TabAt W → Calls Tryd.prog 24 #[.int .i64 4, .string ⟨#[40, 40, 40, 48, 44, 49, 41, 44, 50, 41, 44, 51, 41]⟩, .int .i64 13] W fun e w' => e = .returned (.tuple #[.string ⟨#[40, 40, 48, 44, 50, 41, 44, 51, 41]⟩, .int .i64 0]) ∧ Below W.heap.size W w') := ⟨fun W hT => by
    have := Kept_calls 4 [40, 40, 40, 48, 44, 49, 41, 44, 50, 41, 44, 51, 41] 13 W hT
    rw [alive_Kept] at this
    exact this⟩
  have H5 : Aside0 (∀ W, TabAt W → Calls Tryd.prog 42 #[.int .i64 3, .string ⟨#[40, 40, 48, 44, 49, 41, 44, 50, 41]⟩, .int .i64 0, .int .i64 1] W fun e w' => e = .returned (.tuple #[.int .i64 3, .int .i64 0]) ∧ Below W.heap.size W w') := ⟨fun W hT => by
    have := Family_calls 3 [40, 40, 48, 44, 49, 41, 44, 50, 41] 0 1 W hT
    rw [alive_Family] at this
    exact this⟩
  clear hT
  go_enter Tryd.func15, Tryd.ntmps15
  go_wp2_with (first
    | (go_at_call 17; go_must (refine (H1.out _ HT.out).mono ?_; rintro e w1 ⟨rfl, hb⟩; have HB1 := Aside0.mk hb; clear hb))
    | (go_at_call 19; go_must (refine (H2.out _).mono ?_; rintro e w2 ⟨rfl, hb⟩; have HB2 := Aside0.mk (below_then HB1.out HB1.out.size hb); clear hb))
    | (go_at_call 13; go_must (refine (H3.out _).mono ?_; rintro e w3 ⟨rfl, hb⟩; have HB3 := Aside0.mk (below_then HB2.out HB2.out.size hb); clear hb))
    | (go_at_call 24; go_must (refine (H4.out _ (HT.out.next HB3.out)).mono ?_; rintro e w4 ⟨rfl, hb⟩; have HB4 := Aside0.mk (below_then HB3.out HB3.out.size hb); clear hb))
    | (go_at_call 42; go_must (refine (H5.out _ (HT.out.next HB4.out)).mono ?_; rintro e w5 ⟨rfl, hb⟩; have HB5 := Aside0.mk (below_then HB4.out HB4.out.size hb); clear hb)))
  go_ret
  exact ⟨rfl, HB5.out⟩
end Go.Proofs.YtdbbcngmnpejnaaDoor.B

/- BreedAho, walked: it returns true. -/
namespace Go.Proofs.YtdbbcngmnpejnaaDoor.B
open Go.Proofs.YtdbbcngmnpejnaaDoor.A
open Go.RowKit Go.Proofs.YtdbbcngmnpejnaaDoorW.PrintWords Go.Proofs.YtdbbcngmnpejnaaDoorW.PrintMore
theorem strB_of (s : ByteArray) : ∃ L, strB L = s ∧ L.length = s.size := ⟨s.data.toList, by
  obtain ⟨⟨d⟩⟩ := s
  rfl, Array.length_toList⟩
end Go.Proofs.YtdbbcngmnpejnaaDoor.B

/- BreedShows, walked: it returns true. -/
namespace Go.Proofs.YtdbbcngmnpejnaaDoor.B
open Go.Proofs.YtdbbcngmnpejnaaDoor.A
open Go.RowKit Go.Proofs.YtdbbcngmnpejnaaDoorW.PrintWords Go.Proofs.YtdbbcngmnpejnaaDoorW.PrintMore
set_option maxRecDepth 100000 in
set_option maxHeartbeats 6400000 in
theorem shows_any (n : Int) (s : ByteArray) (A : Option Addr) (c : Nat) (l : List S44) (W : World) (hr : Kd.C k44 W A l.length l) (hc : l.length ≤ c) (hT : TabAt W) :
    Calls Tryd.prog 6 #[.int .i64 n, .string s, .slice A l.length c] W fun e w' => e = .returned (.bool true) ∧ Below W.heap.size W w' := by
  obtain ⟨L, hLs, hLl⟩ := strB_of s
  have HT := Aside0.mk hT
  have HR := Aside0.mk hr
  have HC := Aside0.mk hc
  have HFW := Aside0.mk (few_calls A c l s W hr hc)
  have HAL : Aside0 (∀ w, Below W.heap.size W w → Calls Tryd.prog 15 #[] w fun e w' => e = .returned (.bool true) ∧ Below w.heap.size w w') := ⟨fun w hb => alive_calls w (HT.out.next hb)⟩
  by_cases hfew : l.length ≤ 100 ∧ s.size ≤ 100
  · rw [decide_eq_true hfew] at HFW
    have hl100 := hfew.1
    have HP : Aside0 (∀ w A' c', Below W.heap.size W w → l.length ≤ c' → Kd.C k44 w A' l.length l → Calls Tryd.prog 28 #[.int .i64 n, .string s, .slice A' l.length c'] w fun e w' => e = .returned (.tuple #[.bool (showsE n L l).1, .int .i64 (showsE n L l).2]) ∧ Below w.heap.size w w') := ⟨fun w A' c' hb hc' hC => by
      have := Shows_calls n L A' c' l w hC hc' (HT.out.next hb)
      rw [hLs] at this; exact this⟩
    have HQ : Aside0 (∀ w, Below W.heap.size W w → Calls Tryd.prog 29 #[.int .i64 n, .string s, .slice A l.length c] w fun e w' => e = .returned (.tuple #[.bool (showsE n L l).1, .int .i64 (showsE n L l).2]) ∧ Below w.heap.size w w') := ⟨fun w hb => by
      have := RShows_calls n L (by omega) A c l w (Kd.C_below HR.out hb) HC.out
      rw [hLs] at this; exact this⟩
    generalize (showsE n L l).1 = b1 at HP HQ
    generalize (showsE n L l).2 = b2 at HP HQ
    clear hr hc hT hfew hLs hLl
    go_enter Tryd.func6, Tryd.ntmps6
    go_upto_region 3 with (go_at_call 16; go_must (refine HFW.out.mono ?_; rintro e w1 ⟨rfl, hb⟩; have HB1 := Aside0.mk hb; clear hb))
    go_upto_region 4 with (first
      | ((with_reducible refine gate_dst (N := 17) rfl ?_); refine Kd.R_lit k44 w1.heap.size 44 ?hg (N := 17) ?hd (xs := ([] : List S44)) (inner := []) (ok := fun _ => True) (okp := fun _ => True) ?hr ?hp (fun _ hk => hk) trivial (Below.refl _ _) (Nat.le_refl _) (by simp) ?_; (case hd => rfl); (case hg => rfl); (case hr => first | (go_simp; done) | (go_simp; rfl)); (case hp => exact (Reps.none _ _)); intro v7 w7 ho7 hb7 _ _; have HO7 := Aside0.mk ho7; have HB7 := Aside0.mk hb7; clear ho7 hb7)
      | (at_builtin; go_must (refine Kd.R_append_rows k44 (Rr := k44.K w7) (w0 := w7) w1.heap.size rfl (.tmp 17) (.tmp 18) 27 44 _ _ rfl Tryd.underlying27 info44 rfl (by decide) (by decide) v7 [] l A l.length c (fun _ => True) (fun _ => False) rfl rfl HO7.out (Kd.C_below (Kd.C_below HR.out HB1.out) HB7.out) (fun _ _ h => h) (fun _ hk => hk.elim) (fun _ _ => trivial) (Below.refl _ _) HB7.out.size (by simp <;> omega) ?_; intro v8 w8 ho8 hb8 _ _; rw [List.nil_append] at ho8; obtain ⟨A8, c8, hv8, hc8, hC8⟩ := Kd.R_reads ho8; subst hv8; have HC8 := Aside0.mk hC8; have HCC8 := Aside0.mk hc8; have HB8 : Aside0 (Below W.heap.size W w8) := ⟨below_then HB1.out HB1.out.size (HB7.out.trans hb8)⟩; clear ho8 hb8 hC8 hc8)))
    go_wp2_with (first
      | (go_at_call 28; go_must (refine (HP.out _ A8 c8 HB8.out HCC8.out HC8.out).mono ?_; rintro e w9 ⟨rfl, hb⟩; have HC9 := Aside0.mk (Kd.C_below HC8.out hb); have HB9 := Aside0.mk (below_then HB8.out HB8.out.size hb); clear hb))
      | (go_at_call 29; go_must (refine (HQ.out _ HB9.out).mono ?_; rintro e wa ⟨rfl, hb⟩; have HCa := Aside0.mk (Kd.C_below HC9.out hb); have HBa := Aside0.mk (below_then HB9.out HB9.out.size hb); clear hb))
      | (go_at_call 23; go_must (refine (same_calls A8 c8 l A c l _ HCa.out HCC8.out (Kd.C_below HR.out HBa.out) HC.out).mono ?_; rintro e wb ⟨rfl, hb⟩; rw [decide_eq_true (show l = l from rfl)]; have HBb := Aside0.mk (below_then HBa.out HBa.out.size hb); clear hb))
      | (go_at_call 15; go_must (refine (HAL.out _ HBb.out).mono ?_; rintro e wc ⟨rfl, hb⟩; have HBc := Aside0.mk (below_then HBb.out HBb.out.size hb); clear hb)))
    go_ret
    exact ⟨rfl, HBc.out⟩
  · rw [decide_eq_false hfew] at HFW
    obtain ⟨len, hlen⟩ : ∃ len, l.length = len := ⟨_, rfl⟩
    rw [hlen] at HFW ⊢
    clear hr hc hT hfew hLs hLl hlen
    go_enter Tryd.func6, Tryd.ntmps6
    go_wp2_with (first
      | (go_at_call 16; go_must (refine HFW.out.mono ?_; rintro e w1 ⟨rfl, hb⟩; have HB1 := Aside0.mk hb; clear hb))
      | (go_at_call 15; go_must (refine (HAL.out _ HB1.out).mono ?_; rintro e w2 ⟨rfl, hb⟩; have HB2 := Aside0.mk (below_then HB1.out HB1.out.size hb); clear hb)))
    go_ret
    exact ⟨rfl, HB2.out⟩
end Go.Proofs.YtdbbcngmnpejnaaDoor.B

/- What the laid variables give the walks: the table of math/bits lies; and the door's own heap meets the condition. -/
namespace Go.Proofs.YtdbbcngmnpejnaaDoor.B
open Go.Proofs.YtdbbcngmnpejnaaDoor.A
open Go Go.ChangeShapes Go.WideShapes Go.ChangeAt Go.RowKit
def laidB : List (String × DataW Unit) := [("math/bits.deBruijn32tab", Rows.laid_math_bits_deBruijn32tab), ("math/bits.deBruijn64tab", Rows.laid_math_bits_deBruijn64tab)]
theorem gTab : Tryd.prog.globalNamed "math/bits.deBruijn64tab" = some 1 := by kernel_rfl
theorem tTab : (Tryd.prog.globals[1]?).map (·.type) = some 150 := by kernel_rfl
theorem uTab : Tryd.prog.underlying 150 = some (.array 64 5) := Tryd.underlying150
theorem uU8 : Tryd.prog.underlying 5 = some (.int .u8) := Tryd.underlying5
theorem cU8 : Tryd.prog.cellsOf 5 = 1 := by kernel_rfl
/-- The door's own heap meets the condition. -/
theorem door_met (os : Os) (args : Array Value) : laidMetH Tryd.prog laidB ((World.doorLaid Tryd.prog 24 os).forCall (fun _ _ => 0) ⟨#[], args, []⟩).memory :=
  laidMetH_of_parts3 (fuel := 8) (laidMet_of_run' 8 (by kernel_rfl) (by kernel_rfl)) (by kernel_rfl) (by kernel_rfl)
theorem tab_data : (Rows.laid_math_bits_deBruijn64tab : DataW Unit) = .agg (tab64.map fun n => .lit (.int .u8 n)) := by rfl
theorem of_laid {W : World} (h : laidMetH Tryd.prog laidB W) : TabAt W := by
  rw [MakeChecks.laidMetH_plain _ _ _ (by kernel_rfl)] at h
  obtain ⟨ps, ⟨g0, t0, cs0, f0, p0, q0, hg0, ht0, hv0, hd0, ⟨g1, t1, cs1, f1, p1, q1, hg1, ht1, hv1, hd1, _, _⟩, _⟩, _, _⟩ := h
  obtain rfl := Option.some.inj (gTab.symm.trans hg1)
  obtain rfl := Option.some.inj (tTab.symm.trans ht1)
  rw [tab_data] at hd1
  obtain ⟨xs, m1, rfl, hx1, hlen, hn3, hel⟩ := DataW.trod_array uTab hd1
  intro j hj
  have hj' : j < xs.length := by omega
  have h0 := hel j hj
  rw [cU8, Nat.mul_one, List.getElem?_eq_getElem hj'] at h0
  obtain ⟨k, e1, e2, _⟩ := DataW.trod_int uU8 h0
  simp only [Prod.mk.injEq, DataW.agg.injEq] at hx1
  have hx := congrArg (fun l : List (DataW Unit) => l[j]?) hx1.1
  simp only [List.getElem?_map, List.getElem?_eq_getElem hj', Option.map_some, e2] at hx
  have hjt : j < tab64.length := hj
  rw [List.getElem?_eq_getElem hjt] at hx
  simp only [Option.map_some, Option.some.injEq, DataW.lit.injEq, Lit.int.injEq, true_and] at hx
  have hc := World.var?_cell hg1 hv1 j
  rw [hc]
  have e3 : cs1.toList[j]? = some (.int .u8 k) := by
    have := congrArg (fun l : List Value => l[0]?) e1
    simpa [List.getElem?_take, List.getElem?_drop] using this
  rw [Array.getElem?_toList] at e3
  rw [e3, ← hx]
  simp [List.getD_eq_getElem?_getD, List.getElem?_eq_getElem hjt]
end Go.Proofs.YtdbbcngmnpejnaaDoor.B

/- An argument that is a slice of triples, opened to a row of cells. -/
namespace Go.Proofs.YtdbbcngmnpejnaaDoor.A
open Go.ChangeShapes Go.WideShapes Go.Deep
open Go.RowKit Go.Proofs.YtdbbcngmnpejnaaDoorW.PrintWords
theorem list_of {α : Type} {P : Nat → α → Prop} : ∀ n, (∀ i, i < n → ∃ x, P i x) → ∃ l : List α, l.length = n ∧ ∀ (i : Nat) (x : α), l[i]? = some x → P i x := by
  intro n
  induction n with
  | zero => exact fun _ => ⟨[], rfl, fun i x h => by simp at h⟩
  | succ n ih =>
    intro h
    obtain ⟨l, hl, hp⟩ := ih (fun i hi => h i (by omega))
    obtain ⟨x, hx⟩ := h n (by omega)
    refine ⟨l ++ [x], by simp [hl], fun i y hy => ?_⟩
    by_cases hi : i < l.length
    · rw [List.getElem?_append_left hi] at hy
      exact hp i y hy
    · have e : i = n := by
        have := (List.getElem?_eq_some_iff.1 hy).1
        rw [List.length_append, List.length_singleton] at this
        omega
      subst e
      have : x = y := by simpa [← hl] using hy
      subst this
      exact hx

set_option maxRecDepth 100000 in
theorem open_triples {H : Type} {enc : TypeId × Value → H} {W : World} {a : Option Addr} {len cap : Nat} {d : DataW H} {p : List MemPlace} (h : DataW.Trod enc Tryd.prog W 0 (fun _ => true) true 27 (.slice a len cap) d p) :
    ∃ ps : List S44, ps.length = len ∧ len ≤ cap ∧ cap ≤ maxLen ∧ Kd.C k44 W a len ps := by
  obtain ⟨fuel, hf⟩ := h
  rcases open_slice Tryd.underlying27 hf with ⟨hcs, _⟩ | ⟨x, l, c, m, n, D, Pl, hcs, _, hl, hm, hmm, _, hi⟩
  · simp [Value.cells] at hcs
    obtain ⟨rfl, rfl, rfl⟩ := hcs
    exact ⟨[], rfl, Nat.le_refl _, Nat.zero_le _, rfl, by omega, fun h => absurd h (by omega)⟩
  · simp [Value.cells] at hcs
    obtain ⟨rfl, rfl, rfl⟩ := hcs
    have hC : Tryd.prog.cellsOf 44 = 3 := by kernel_rfl
    have he : ∀ i, i < len → ∃ q : S44, W.cell? (x.add (i * 3)) = some (.int .i64 q.f0) ∧ W.cell? (x.add (i * 3 + 1)) = some (.int .i64 q.f1) ∧ W.cell? (x.add (i * 3 + 2)) = some (.int .i64 q.f2) := by
      intro i hil
      obtain ⟨cs', hc, ht'⟩ := hi i (by rw [hmm, if_pos rfl]; omega)
      rw [hC] at hc
      obtain ⟨ys, n', _, _, hlen, hyl, hfd⟩ := DataW.trod_struct Tryd.underlying44 ht'
      obtain ⟨_, hcl, hat⟩ := World.cells?_some hc
      have h0 := hfd 0 _ rfl
      have h1 := hfd 1 _ rfl
      have h2 := hfd 2 _ rfl
      match cs', hcl, ys, hyl with
      | [c0, c1, c2], _, [y0, y1, y2], _ =>
        have e0 : Tryd.prog.cellsOf 3 = 1 := by kernel_rfl
        simp [e0] at h0 h1 h2
        obtain ⟨n0, hn0, _, _⟩ := DataW.trod_int Tryd.underlying3 h0
        obtain ⟨n1, hn1, _, _⟩ := DataW.trod_int Tryd.underlying3 h1
        obtain ⟨n2, hn2, _, _⟩ := DataW.trod_int Tryd.underlying3 h2
        simp at hn0 hn1 hn2
        subst hn0 hn1 hn2
        refine ⟨⟨n0, n1, n2⟩, ?_, ?_, ?_⟩
        · have := hat 0 (by omega)
          rw [Go.Deep.add_add] at this
          exact this
        · have := hat 1 (by omega)
          rw [Go.Deep.add_add] at this
          exact this
        · have := hat 2 (by omega)
          rw [Go.Deep.add_add] at this
          exact this
    obtain ⟨ps, hps, hall⟩ := list_of len he
    refine ⟨ps, hps, hl, hm, hps, by unfold maxLen at hm; omega, fun _ => ⟨x, rfl, fun j q hj => ⟨[.int .i64 q.f0, .int .i64 q.f1, .int .i64 q.f2], rfl, k44_mk W q, fun i u hu => ?_⟩⟩⟩
    obtain ⟨g0, g1, g2⟩ := hall j q hj
    match i, hu with
    | 0, hu => cases hu; exact g0
    | 1, hu => cases hu; exact g1
    | 2, hu => cases hu; exact g2
end Go.Proofs.YtdbbcngmnpejnaaDoor.A

/- BreedShows holds: its code returns true and leaves what it was given as it was. Conditions: those of the given statement, none besides. -/
namespace Go.Proofs.YtdbbcngmnpejnaaDoor.breedShows
open Go.ChangeShapes Go.WideShapes Go.ChangeAt Go.RowKit
open Go.ChangeMaps (open_string shut_string)
open Go.Proofs.YtdbbcngmnpejnaaDoorW.PrintWords
open Go.Proofs.YtdbbcngmnpejnaaDoor.A
set_option linter.unusedVariables false
theorem own : ownKnob Tryd.prog.godebug = none := by kernel_rfl
theorem laidOut : laidOutB Tryd.prog = true := by kernel_rfl
def IsRow (k : IntKind) (w : World) (a : Option Addr) (len cap : Nat) (zs : List Int) : Prop :=
  (a = none ∧ len = 0 ∧ cap = 0 ∧ zs = []) ∨
  ∃ x, a = some x ∧ len ≤ cap ∧ cap ≤ maxLen ∧ zs.length = cap ∧ (∀ i, i < zs.length → w.cell? (x.add i) = some (.int k (zs.getD i 0))) ∧ ∀ n ∈ zs, (Lit.int k n).wf = true
set_option maxRecDepth 100000 in
theorem lifted (os : Os) (started : os.Started) (H : Type) (enc : TypeId × Value → H) :
    ReturnsInHanded {} Tryd.checked os 6 .any (fun w args => (Rows.breedShowsSpec.pre enc Tryd.prog Tryd.f6 [] false w args ∧ laidMetH Tryd.prog Go.Proofs.YtdbbcngmnpejnaaDoor.B.laidB w) ∧ sizedMet enc Tryd.prog Tryd.f6 (OpenSpec.ofChange Rows.breedShowsSpec) false w args)
      (Rows.breedShowsSpec.post enc Tryd.prog Tryd.f6 false true false false) := by
  refine returnsInHanded_of_change_and (C := Tryd.checked) (X := fun w _ => laidMetH Tryd.prog Go.Proofs.YtdbbcngmnpejnaaDoor.B.laidB w) (fun _ _ _ hh h => h.of_heap hh) own started (by kernel_rfl) Tryd.func6
    (ChangeSpec.witness_shaped (enc := enc) (C := Tryd.checked) (os := os) (X := fun w _ => laidMetH Tryd.prog Go.Proofs.YtdbbcngmnpejnaaDoor.B.laidB w) false (World.doorLaid Tryd.prog 24 os) #[.int .i64 0, .string ByteArray.empty, .slice none 0 0] 8 rfl (World.shaped_of_RefB (by kernel_rfl) (by kernel_rfl)) (by kernel_rfl) (by kernel_rfl) (by kernel_rfl) (Go.Proofs.YtdbbcngmnpejnaaDoor.B.door_met os _)) ?_
  intro W base args ds gs before hval0 hW hcnd hsz0 hL _
  have hsz : (DataW.weightsEach Tryd.prog (Tryd.f6.params.toList ++ Rows.breedShowsSpec.plain.varTypes Tryd.prog) (ds ++ gs)).all (· ≤ reachBytes) = true := hsz0
  have hval : ∀ (j : Nat) t v, Tryd.f6.params[j]? = some t → args[j]? = some v → Value.okWide Tryd.prog W .any base t v := hval0
  have hW' := hW
  obtain ⟨p, q, hA0, hV, rfl, hfz, hnd⟩ := hW
  have hA : DataW.TrodAll enc Tryd.prog W 0 (fun _ => true) true Tryd.f6.params.toList args.toList ds p := hA0
  rw [Tryd.params6] at hA hval hsz
  obtain ⟨v0, vs0, d0, ds0, p0, q0, hargs, rfl, rfl, h0, r0⟩ := trodAll_cons hA
  obtain ⟨v1, vs1, d1, ds1, p1, q1, rfl, rfl, rfl, h1, r1⟩ := trodAll_cons r0
  obtain ⟨v2, vs2, d2, ds2, p2, q2, rfl, rfl, rfl, h2, r2⟩ := trodAll_cons r1
  obtain ⟨rfl, rfl, rfl⟩ := trodAll_nil r2
  obtain rfl : args = #[v0, v1, v2] := by cases args; simp_all
  obtain ⟨rfl, rfl⟩ := trodVars_none hV
  obtain ⟨a0, rfl, rfl, rfl, w0⟩ := open_int Tryd.underlying3 (hval 0 3 v0 rfl rfl) h0
  obtain ⟨a1, rfl, rfl, rfl, y1⟩ := open_string Tryd.underlying9 (hval 1 9 v1 rfl rfl) h1
  have w1 : a1.size ≤ 140737488351232 := by
    have z := sized_string hsz (j := 1) (t := 9) rfl rfl
    rw [Array.length_toList] at z
    exact z
  obtain ⟨a2, len2, cap2, rfl⟩ := okWide_slice Tryd.underlying27 (hval 2 27 v2 rfl rfl)
  have k2 := h2
  have lt2 : ∀ x ∈ p2, x.block < W.heap.size := by obtain ⟨m, hm⟩ := k2; exact DataW.trod_lt m _ _ _ hm
  obtain ⟨l2, rfl, hc2, hm2, hr2⟩ := open_triples h2
  clear hA0 hval0 hsz0 hsz
  refine (B.shows_any a0 a1 a2 cap2 l2 W hr2 hc2 (B.of_laid hL)).mono fun e W' ⟨he, bel⟩ => ?_
  subst he
  exact ⟨_, rfl, _, _, _, [], _, [], hW', trodAll_mk1 (shut_bool Tryd.underlying4 _), (trodAll_cons_mk (shut_int Tryd.underlying3 w0) (trodAll_cons_mk (shut_string Tryd.underlying9 y1) (trodAll_cons_mk (Below.trod laidOut (by kernel_rfl) (of_decide_eq_true (by kernel_rfl)) k2 bel lt2) trodAll_mk0))), rfl, bel.frame _, fun h => by cases h⟩
theorem over : Rows.breedShowsRow.holds Tryd.pinned (OpenSpec.ofChange Rows.breedShowsSpec) :=
  OpenClaim.holds_of_wide 6 Tryd.f6 rfl rfl rfl rfl rfl rfl rfl ⟨rfl, rfl, rfl, rfl, rfl⟩ rfl rfl rfl rfl rfl (by kernel_rfl) Tryd.func6 (by kernel_rfl)
    (of_decide_eq_true (by kernel_rfl)) (by unfold Func.isWrapper; first | (rw [if_pos (by decide +kernel)]; kernel_rfl) | (rw [if_neg (by decide +kernel)]; exact ⟨rfl, rfl⟩))
    (fun os started H enc _ => lifted os started H enc)
theorem proved : Rows.BreedShowsSaid := over
/-- The tied card. -/
theorem card : Rows.BreedShowsCardSaid :=
  Claim7.holds_tied_plain_at .later [] [.data, .data] true (true, "449c50ce385e76ce5fb1e3c7acce1baa715782fc22fdf803fec36f95dc6565be") true
    proved (fun _ h => by cases h) (by kernel_rfl) (fun _ h => by cases h) breedShows_row_tie rfl ⟨rfl, rfl⟩ (by kernel_rfl) rfl
    (fun f fn hf hfn => by
      obtain rfl : f = 6 := Option.some.inj ((show Tryd.prog.funcNamed "droveway/drovewaylaw05.BreedShows" = some 6 by kernel_rfl).symm.trans hf) |>.symm
      obtain rfl : fn = Tryd.f6 := (Option.some.inj (Tryd.func6.symm.trans hfn)).symm
      exact ⟨by kernel_rfl, fun j t ht => by
        rw [Tryd.params6] at ht
        have hm : t ∈ [3, 9, 27] := by simpa using Array.mem_of_getElem? ht
        have hall : ([3, 9, 27].all fun u => !Tryd.prog.wantsStandIn u) = true := by kernel_rfl
        exact (show Tryd.prog.wantsStandIn t = false by simpa using List.all_eq_true.1 hall t hm)⟩)
    (by kernel_rfl)
#print axioms card
end Go.Proofs.YtdbbcngmnpejnaaDoor.breedShows
namespace Go.Proofs.YtdbbcngmnpejnaaDoor
/-- The card, under a short name, for the claim. -/
theorem breedShows_holds : Rows.BreedShowsCardSaid := breedShows.card
end Go.Proofs.YtdbbcngmnpejnaaDoor
