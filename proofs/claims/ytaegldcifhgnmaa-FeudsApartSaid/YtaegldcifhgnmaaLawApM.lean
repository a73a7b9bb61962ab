/- FeudsApart holds: its code returns true and leaves what it was given as it was. Conditions: those of the given statement, none besides. -/
import Derived.Test.YtaegldcifhgnmaaZAp2
import Derived.Test.YtaegldcifhgnmaaProg
import Derived.Below
import Derived.Deep.Draws
import Derived.Deep.AppendLies
import Derived.Maps.AppendAt
import Derived.OwnWalk
import Derived.Laws.BytesArg
import Derived.Laws.MakeOwn
import Derived.Laws.OwnMore
import Derived.Deep.OwnRows
import Derived.Tactics
import Derived.Lib.ConvBytes
import Derived.Laws.Slices
import Derived.WalkKit
import Derived.KernelRfl
import Derived.RowKit3
import Derived.Deep.LoopGhost
import Derived.Deep.QuietTactic
import Derived.BigQuiet
import Derived.WideLaws
import Derived.Deep.DeepCutAuto
import Derived.Deep.CutBlock
import Derived.Deep.RegionHeld3
import Derived.Laws.Rows
import Derived.Lib.AppendStr
import Derived.ArgAppend
import Derived.Laws.IdiomCopy
import Derived.OrdersHeld
import Derived.Laws.BitsLemmas
import Derived.RowKit
import Derived.Test.YtaegldcifhgnmaaWWords
import Derived.Test.YtaegldcifhgnmaaWLast
import Derived.Test.YtaegldcifhgnmaaWTab
import Derived.Test.YtaegldcifhgnmaaWFour
import Derived.Test.YtaegldcifhgnmaaWQPut
import Derived.Test.YtaegldcifhgnmaaWApart
import Derived.Test.YtaegldcifhgnmaaWArr
import Derived.Test.YtaegldcifhgnmaaWZeros
import Derived.Test.YtaegldcifhgnmaaWFoot
import Derived.Test.YtaegldcifhgnmaaWKept
import Derived.Test.YtaegldcifhgnmaaWShare
import Derived.Test.YtaegldcifhgnmaaWN
import Derived.Test.YtaegldcifhgnmaaWFootNe
import Derived.Test.YtaegldcifhgnmaaWAt
import Derived.Test.YtaegldcifhgnmaaWEqStruct
import Derived.Test.YtaegldcifhgnmaaWRepsOne
import Derived.Test.YtaegldcifhgnmaaWInv
import Derived.Test.YtaegldcifhgnmaaWInvWords
import Derived.Test.YtaegldcifhgnmaaWGuard
import Derived.Test.YtaegldcifhgnmaaWNEv
import Derived.Test.YtaegldcifhgnmaaWMore
import Derived.Deep.Slices
import Derived.ChangeSame
import Derived.Test.YtaegldcifhgnmaaRows
import Derived.ProofKit
import Derived.OpenShut
import Derived.ShutString
import Derived.ChangeOld
import Derived.SizedLaws
import Derived.Test.YtaegldcifhgnmaaWSized
/- append to a row of rows that is cut to its own length. (Turned by a program from Q3.) -/
namespace Go.Proofs.Ytaegldcifhgnmaa.B
open Go.Proofs.Ytaegldcifhgnmaa.A
open Go.RowKit Go.Proofs.YtaegldcifhgnmaaW.PrintWords Go.Proofs.YtaegldcifhgnmaaW.PrintMore

theorem appendR_run {W : World} {B : Nat} {A1 : Option Addr} {n c1 : Nat} {now : List RowT} (p : RowT) (ty : TypeId) (HO : Kd.R (kR) 28 W B (fun _ => True) (.slice A1 n c1) now) (hB : B ≤ W.heap.size) (hn : n ≤ 1000000) :
    ∃ v1 w1, (Builtin.append_ #[53, 53] ty #[.slice A1 n n, .slice (some ⟨W.heap.size, 0, none⟩) 1 1]).run Try.prog (W.alloc (.cells #[encR p] 28)) = .ok v1 w1 ∧ Kd.R (kR) 28 w1 B (fun _ => True) v1 (now ++ [p]) ∧ Below W.heap.size W w1 := by
  obtain ⟨i0, hi, hzz⟩ := Option.map_eq_some_iff.1 info28
  simp only [Prod.mk.injEq] at hzz
  obtain ⟨hz0, hz1, hz2⟩ := hzz
  have hnl : n = now.length := (Kd.R_reads' HO).1
  obtain ⟨h0, inner, hown, hr⟩ := HO
  have hnews := World.news_of_block (cs := #[encR p]) (t := 28) (fr := (0, 0)) (heap_alloc_new W (.cells #[encR p] 28))
  have hsz : (kR).sz = 1 := rfl
  have key : ∃ v1 w1, (Builtin.append_ #[53, 53] ty #[.slice A1 n n, .slice (some ⟨W.heap.size, 0, none⟩) 1 1]).run Try.prog (W.alloc (.cells #[encR p] 28)) = .ok v1 w1 ∧ w1.ownsRow (W.heap.size + 1) 28 1 v1 (n + 1) (inner ++ [encR p]) ∧ (W.alloc (.cells #[encR p] 28)).grownBy w1 none := by
    rcases hown.2 with ⟨e1, e2⟩ | ⟨g, cap, cur, e1, hg, hh, hc, hcm, hcs, ht⟩
    · injection e1 with e3 e4 e5
      subst e3 e4
      have hin : inner = [] := by
        have := hown.1
        rw [← hnl, Nat.zero_mul] at this
        exact List.eq_nil_of_length_eq_zero this
      rw [hin]
      obtain ⟨v1, w1, h1, h2, h3, _⟩ := run_append_own_at (P := Try.prog) (W.alloc (.cells #[encR p] 28)) (W.heap.size + 1) 53 ty 28 i0 (.slice none 0 0) 1 24 Try.underlying53 hi hz0 hz1 hz2 rfl (by decide) (.slice none 0 0) 0 [] (own_nil _ _ _ _) ⟨W.heap.size, 0, none⟩ 1 1 [encR p] rfl hnews (by intro u hu; simp at hu; subst hu; rfl) (by decide) (by decide) (by simp)
      exact ⟨v1, w1, h1, h2, h3⟩
    · injection e1 with e3 e4 e5
      subst e3
      rw [hsz] at hcs ht hown
      have hlen := hown.1
      rw [← hnl] at hlen ht
      have holds : ∀ j u, inner[j]? = some u → (W.alloc (.cells #[encR p] 28)).cell? ((⟨g, 0, none⟩ : Addr).add j) = some u := by
        intro j u hu
        have hgl : g < W.heap.size := by
          have := (Array.getElem?_eq_some_iff.1 hh).1
          exact this
        have hb2 : (W.alloc (.cells #[encR p] 28)).heap[g]? = some (.cells cur 28 (0, 0)) := by
          rw [← hh]
          exact (below_alloc (Below.refl W.heap.size W) _).block g hgl
        refine World.news_of_block hb2 j u ?_
        rw [← ht, List.getElem?_take] at hu
        split at hu
        · exact hu
        · cases hu
      obtain ⟨v1, w1, h1, h2, h3⟩ := run_append_arg_grows (P := Try.prog) (w := W.alloc (.cells #[encR p] 28)) 53 ty 28 i0 (.slice none 0 0) 1 24 Try.underlying53 hi hz0 hz1 hz2 rfl (by decide) ⟨g, 0, none⟩ n n inner hlen holds ⟨W.heap.size, 0, none⟩ 1 1 [encR p] rfl hnews (by omega) (by simp only [maxLen]; omega) (by omega)
      exact ⟨v1, w1, h1, by simpa using h2, h3⟩
  obtain ⟨v1, w1, h1, h2, h3⟩ := key
  have hgr : W.grownBy w1 none := World.grownBy.trans (World.grownBy_alloc W _ _) h3
  refine ⟨v1, w1, h1, ?_, (below_alloc (Below.refl W.heap.size W) _).grown h3 (by simp) (fun k hk => by cases hk)⟩
  have hown1 : w1.ownsRow B 28 (kR).sz v1 (now.length + 1) (inner ++ [encR p]) := by rw [← hnl]; exact own_weaken h2 (by omega)
  refine Kd.R_appended (okp := fun _ => False) h0 hr rfl (fun _ hk => hk.elim) (fun _ _ => trivial) hown1 (grown_some hgr _) ?_
  right
  rcases h2.2 with ⟨_, e⟩ | ⟨g, cap, cur, e, hg, _⟩
  · omega
  · exact ⟨g, by rw [e]; rfl, by omega⟩
section
variable {ops : Array Oper} {o : Oper} {a : Act} {Q : Exit → Act → World → Prop} {K : Act → World → Prop}
theorem step_appendR {W : World} {B : Nat} {A1 : Option Addr} {n c1 : Nat} {now : List RowT} (p : RowT) (hw : Region.wanted o (yielded ops a.tmps) = true) (s x : Operand) (ho : o.op = .call { callee := .builtin .append, args := #[s, x], argTypes := #[53, 53] })
    (hs : a.eval s = .slice A1 n n) (hx : a.eval x = .slice (some ⟨W.heap.size, 0, none⟩) 1 1) (HO : Kd.R (kR) 28 W B (fun _ => True) (.slice A1 n c1) now) (hB : B ≤ W.heap.size) (hn : n ≤ 1000000)
    (h : ∀ v1 w1, Kd.R (kR) 28 w1 B (fun _ => True) v1 (now ++ [p]) → Below W.heap.size W w1 → K (a.put o.dst v1) w1) :
    if Region.wanted o (yielded ops a.tmps) = true then Oper.wp Try.prog o a (W.alloc (.cells #[encR p] 28)) K Q else K (a.put o.dst undef) (W.alloc (.cells #[encR p] 28)) := by
  obtain ⟨v1, w1, hr, h1, h2⟩ := appendR_run p o.type HO hB hn
  rw [if_pos hw]
  unfold Oper.wp execOp
  simp only [ho, resolve, invoke, builtin, Sem.run_bind, Sem.run_pure, Result.andThen_ok, List.map_toArray, List.map_cons, List.map_nil, hs, hx, hr]
  exact h v1 w1 h1 h2
end
end Go.Proofs.Ytaegldcifhgnmaa.B

/- The specification's longest: the walk. (Printed by gen_x5.py.) -/
namespace Go.Proofs.Ytaegldcifhgnmaa.B
open Go.Proofs.Ytaegldcifhgnmaa.A
open Go.RowKit Go.Proofs.YtaegldcifhgnmaaW.PrintWords Go.Proofs.YtaegldcifhgnmaaW.PrintMore
set_option linter.unusedSimpArgs false

/-! ### plain -/
/-- The longest list that begins with now and goes on with rows from the d-th last on; best is what is found so far. -/
def lgB {α : Type} [Inhabited α] (key : α → List Int) (all : List α) : Nat → Nat → List α → List α → List α
  | 0, _, _, best => best
  | d + 1, used, now, best => lgB key all d used now (if disjB used (key (all.getD (all.length - (d + 1)) default)) then updL (lgB key all d (used ||| setI (key (all.getD (all.length - (d + 1)) default))) (now ++ [all.getD (all.length - (d + 1)) default]) (now ++ [all.getD (all.length - (d + 1)) default])) best else best)
theorem upd_assoc {α : Type} (x b best : List α) : updL x (updL b best) = updL (updL x b) best := by
  unfold updL
  by_cases h1 : best.length < b.length <;> by_cases h2 : b.length < x.length <;> by_cases h3 : best.length < x.length <;> simp [h1, h2, h3] <;> omega
theorem lp_lg {α : Type} [Inhabited α] (key : α → List Int) (all : List α) : ∀ d used now b best, lpB key all d used now (updL b best) = updL (lgB key all d used now b) best
  | 0, _, _, _, _ => rfl
  | d + 1, used, now, b, best => by
    rw [lpB, lgB]
    by_cases h : disjB used (key (all.getD (all.length - (d + 1)) default)) = true
    · rw [if_pos h, if_pos h, lp_lg key all d, upd_assoc, lp_lg key all d]
    · rw [if_neg h, if_neg h, lp_lg key all d]
theorem upd_nil {α : Type} (b : List α) : updL b [] = b := by
  unfold updL
  split
  · rfl
  · rename_i h
    exact (show b = [] by simpa using h).symm
theorem lp_is_lg {α : Type} [Inhabited α] (key : α → List Int) (all : List α) (d used : Nat) (now : List α) : lpB key all d used now (updL now []) = lgB key all d used now now := by
  rw [lp_lg, upd_nil]
theorem lg_step {all : List RowT} {k : Nat} {x : RowT} (hk : k < all.length) (hx : all.getD k default = x) (used : Nat) (now best : List RowT) :
    lgB keyR all (all.length - k) used now best = lgB keyR all (all.length - (k + 1)) used now (if disjB used x.2 then updL (lgB keyR all (all.length - (k + 1)) (used ||| setI x.2) (now ++ [x]) (now ++ [x])) best else best) := by
  obtain ⟨d, hd⟩ : ∃ d, all.length - k = d + 1 := ⟨all.length - k - 1, by omega⟩
  rw [hd, lgB, show all.length - (d + 1) = k by omega, hx, show all.length - (k + 1) = d by omega]
  rfl
/-- The sum of a list's ties, as bits. -/
def sumI (now : List Int) : Nat := now.foldl (fun s x => s + 2 ^ x.toNat) 0
theorem sumI_snoc (now : List Int) (x : Int) : sumI (now ++ [x]) = sumI now + 2 ^ x.toNat := by unfold sumI; rw [List.foldl_append]; rfl
theorem take_sum {b : List Int} {i : Nat} (hi : i < b.length) {a : Nat} (ha : b.getD i 0 = (a : Int)) : sumI (b.take (i + 1)) = sumI (b.take i) + 2 ^ a := by
  rw [getD_append_left' hi, sumI_snoc, ha, Int.toNat_natCast]
theorem sumI_le {b : List Int} (h : ∀ i ∈ b, 0 ≤ i ∧ i < 20) : ∀ k, k ≤ b.length → sumI (b.take k) ≤ k * 2 ^ 20
  | 0, _ => by simp [sumI]
  | k + 1, hk => by
    obtain ⟨a, ha⟩ := Int.eq_ofNat_of_zero_le (h _ (getD_mem 0 hk)).1
    have h1 := (h _ (getD_mem 0 hk)).2
    have h2 := sumI_le h k (by omega)
    have h3 : 2 ^ a ≤ 2 ^ 20 := Nat.pow_le_pow_right (by decide) (by omega)
    rw [take_sum hk ha, Nat.add_mul, Nat.one_mul]
    exact Nat.add_le_add h2 h3
theorem setI_bit : ∀ (b : List Int) (j : Nat), (setI b).testBit j = b.any fun i => decide (i.toNat = j) := by
  have key : ∀ (b : List Int) (s j : Nat), (b.foldl (fun s x => s ||| 2 ^ x.toNat) s).testBit j = (s.testBit j || b.any fun i => decide (i.toNat = j)) := by
    intro b
    induction b with
    | nil => intro s j; simp
    | cons x b ih =>
      intro s j
      rw [List.foldl_cons, ih, or_bit, List.any_cons, Bool.or_assoc]
      congr 2
      exact decide_eq_decide.mpr ⟨fun h => h.symm, fun h => h.symm⟩
  intro b j
  unfold setI
  rw [key b 0 j]
  simp
theorem and_disj (used : Nat) (b : List Int) : (setI b &&& used = 0) ↔ disjB used b = true := by
  unfold disjB
  rw [List.all_eq_true]
  constructor
  · intro h i hi
    have h1 := congrArg (fun x => Nat.testBit x i.toNat) h
    rw [Nat.testBit_and, setI_bit, Nat.zero_testBit] at h1
    have h2 : (b.any fun k => decide (k.toNat = i.toNat)) = true := List.any_eq_true.mpr ⟨i, hi, by simp⟩
    rw [h2, Bool.true_and] at h1
    rw [h1]; rfl
  · intro h
    apply Nat.eq_of_testBit_eq
    intro j
    rw [Nat.testBit_and, setI_bit, Nat.zero_testBit]
    cases hj : (b.any fun i => decide (i.toNat = j)) with
    | false => rfl
    | true =>
      obtain ⟨i, hi, h2⟩ := List.any_eq_true.mp hj
      have h3 := h i hi
      have h4 : i.toNat = j := of_decide_eq_true h2
      rw [h4] at h3
      rw [Bool.true_and]
      simpa using h3
theorem ask_disj {used m : Nat} {b : List Int} (hm : setI b = m) (h1 : m < 2 ^ 60) (h2 : used < 2 ^ 60) : (bits .and .i64 (m : Int) (used : Int) == 0) = disjB used b := by
  rw [and64 m used (lt62 h1 (by decide)) (lt62 h2 (by decide)), Bool.eq_iff_iff, beq_iff_eq, ← and_disj, hm]
  exact ⟨fun h => by omega, fun h => by omega⟩

/-! ### the walk -/
def LgPost (B : Nat) (Z : List RowT) (W : World) (e : Ending) (w' : World) : Prop :=
  ∃ v : Value, e = .returned v ∧ kR.R 28 w' B (fun _ => True) v Z ∧ Below W.heap.size W w'
def LgSaid (rows : List RowT) (A : Option Addr) (c B d : Nat) : Prop :=
  ∀ (fr used : Nat) (now : List RowT) (v : Value) (W : World), fr + d = rows.length → used < 2 ^ 60 → now.length ≤ fr → kR.R 28 W B (fun _ => True) v now → B ≤ W.heap.size → kR.C W A rows.length rows → (∀ x ∈ rows, RowOk W x) →
    Calls Try.prog 72 #[.slice A rows.length c, .int .i64 fr, .int .i64 used, v] W (LgPost B (lgB keyR rows d used now now) W)

set_option maxRecDepth 100000 in
set_option maxHeartbeats 6400000 in
theorem lg_one (rows : List RowT) (A : Option Addr) (c B : Nat) (hal : rows.length ≤ 100000) (hbd : ∀ x ∈ rows, (∀ i ∈ x.2, 0 ≤ i ∧ i < 20) ∧ sumI x.2 = setI x.2) (d : Nat) (ih : ∀ d', d' < d → LgSaid rows A c B d') : LgSaid rows A c B d := by
  intro fr used now v W hfr hu hnf hR hB hr hok
  obtain ⟨A2, c2, rfl, hc2, _⟩ := Kd.R_reads hR
  have HI := Aside0.mk ih
  have HR := Aside0.mk hR
  have HB := Aside0.mk hB
  have HA := Aside0.mk hr
  have HOK := Aside0.mk hok
  have HBD := Aside0.mk hbd
  obtain ⟨Z, hZ⟩ : ∃ Z, lgB keyR rows d used now now = Z := ⟨_, rfl⟩
  have HZ := Aside0.mk hZ
  rw [hZ]
  have hb1 : (0 : Int) ≤ (now.length : Int) := by omega
  have hb2 : (now.length : Int) ≤ (c2 : Int) := by omega
  have hq : now.length ≤ 100000 := by omega
  have hnil := R_nil_or hR
  clear ih hR hB hr hok hbd hZ hc2
  rcases hnil with ⟨rfl, hx0, hc0⟩ | ⟨ad2, rfl⟩
  · subst hx0 hc0
    go_enter Try.func72, Try.ntmps72
    go_wp2
    go_loopg [9, 10, 11, 12, 13] rows.length (fun gg v9 v10 _ _ _ wr => ∃ (i : Nat) (vq : Value) (best : List RowT), i ≤ rows.length ∧ fr ≤ i ∧ rows.length - i ≤ gg ∧ v10 = .int .i64 i ∧ vq = v9 ∧ Aside0 (kR.R 28 wr B (fun _ => True) vq best) ∧ Aside0 (lgB keyR rows (rows.length - i) used ([] : List RowT) best = Z) ∧ Aside0 (Below W.heap.size W wr))
    case atStart => exact ⟨fr, _, ([] : List RowT), by omega, Nat.le_refl _, by omega, rfl, rfl, HR, ⟨by rw [show rows.length - fr = d by omega]; exact HZ.out⟩, ⟨Below.refl _ _⟩⟩
    case round =>
      clear HZ
      obtain ⟨i, vq, best, hi, hfi, hgg, rfl, hvq, HVB, HZ, HBr⟩ := hrel
      subst hvq
      obtain ⟨A9, c9, hv9, _, _⟩ := Kd.R_reads HVB.out
      subst hv9
      by_cases hil : i < rows.length
      · have hilz : (i : Int) < (rows.length : Int) := by omega
        obtain ⟨ad, had, hx0⟩ := ReadsOf.at_ (Kd.reads_of_C (d := default) (Kd.C_below HA.out HBr.out)) (i : Int) (by omega) (by omega)
        subst had
        rw [Int.toNat_natCast] at hx0
        have hrd : rdOf default rows (i : Int) = rows.getD i default := by simp [rdOf]
        rw [hrd] at hx0
        have hmem : rows.getD i default ∈ rows := getD_mem default hil
        generalize hy : rows.getD i default = y at hx0 hmem
        have HY := Aside0.mk hy
        have HMEM := Aside0.mk hmem
        obtain ⟨⟨g, rc⟩, b⟩ := y
        have hx : wr.cell? (ad.add i) = some (.slice (some ⟨g, 0, none⟩) b.length rc) := hx0
        have hok := (HOK.out _ hmem).below HBr.out
        have HRO := Aside0.mk hok
        have hbl : b.length ≤ 1000 := hok.2.1
        have HB20 : Aside0 (∀ i ∈ b, 0 ≤ i ∧ i < 20) := ⟨(HBD.out _ hmem).1⟩
        have HSS : Aside0 (sumI b = setI b) := ⟨(HBD.out _ hmem).2⟩
        have HSTEP := Aside0.mk (lg_step hil hy used ([] : List RowT) best)
        clear hx0 hrd hmem hy hok
        go_wp2
        go_loopg [11, 12] b.length (fun g2 v11 v12 w2 => ∃ k : Nat, k ≤ b.length ∧ b.length - k ≤ g2 ∧ v12 = .int .i64 k ∧ v11 = .int .i64 ((sumI (b.take k) : Nat) : Int) ∧ wr = w2)
        case atStart => exact ⟨0, Nat.zero_le _, by omega, rfl, rfl, rfl⟩
        case round =>
          obtain ⟨k, hk, hg2, rfl, rfl, rfl⟩ := hrel
          by_cases hkl : k < b.length
          · have hklz : (k : Int) < (b.length : Int) := by omega
            obtain ⟨ad3, hr3, hx3⟩ := Kd.at_int HRO.out.2.2.2.2 (k : Int) (by omega) (show (k : Int) < (b.length : Int) by omega)
            cases hr3
            rw [Int.toNat_natCast] at hx3
            have hrd3 : rd b (k : Int) = b.getD k 0 := by simp [rd]
            have hin := HB20.out _ (getD_mem 0 hkl)
            obtain ⟨a, ha⟩ := Int.eq_ofNat_of_zero_le hin.1
            have hx4 : wr.cell? ⟨g, k, none⟩ = some (.int .i64 (a : Int)) := by
              rw [← ha, ← hrd3]
              have : (⟨g, 0, none⟩ : Addr).add k = ⟨g, k, none⟩ := by rw [add_at, Nat.zero_add]
              rw [← this]; exact hx3
            have ha20 : a < 20 := by omega
            have hset := take_sum hkl ha
            have HSET := Aside0.mk hset
            have hsl := sumI_le HB20.out k hk
            have h2a : 2 ^ a ≤ 2 ^ 20 := Nat.pow_le_pow_right (by decide) (by omega)
            have hsk : k * 2 ^ 20 ≤ 1000 * 2 ^ 20 := Nat.mul_le_mul_right _ (by omega)
            generalize hs : sumI (b.take k) = m at hsl HSET ⊢
            have hwa := two_wrap (show a < 60 by omega)
            have HWS : Aside0 (IntKind.i64.wrap ((m : Int) + 2 ^ a) = ((m + 2 ^ a : Nat) : Int)) := ⟨by rw [pow_cast, ← Int.natCast_add]; exact wrap64_nat _ (Int.natCast_nonneg _) (by have e1 : (2 : Nat) ^ 20 = 1048576 := rfl; rw [e1] at *; exact_mod_cast (show m + 2 ^ a < 2 ^ 62 by have e2 : (2 : Nat) ^ 62 = 4611686018427387904 := rfl; omega))⟩
            have hws := HWS.out
            clear hrd3 hin ha hset hx3 h2a hsk hsl hs
            go_wp2
            go_roundg (b.length - (k + 1))
            case measure => omega
            case rel => exact ⟨k + 1, by omega, by omega, by go_num, by rw [HSET.out, Int.natCast_add, Int.natCast_pow]; rfl, rfl⟩
          · have hklz : ¬ (k : Int) < (b.length : Int) := by omega
            obtain rfl : k = b.length := by omega
            rw [List.take_length, HSS.out]
            have hm60 := setIn_ltB (fun j hj => by have := HB20.out j hj; omega) b.length
            rw [List.take_length] at hm60
            have HDB := Aside0.mk (ask_disj (used := used) (b := b) rfl hm60 hu)
            generalize hs : setI b = m at hm60 HDB ⊢
            have HM := Aside0.mk hs
            clear hs
            cases hdj : disjB used b with
            | false =>
              have hask := HDB.out
              rw [hdj] at hask
              have HN : Aside0 (lgB keyR rows (rows.length - (i + 1)) used ([] : List RowT) best = Z) := ⟨by have := HSTEP.out; (try dsimp only at this); rw [hdj, if_neg Bool.false_ne_true] at this; rw [← this]; exact HZ.out⟩
              clear hdj
              go_wp2
              go_roundg (rows.length - (i + 1))
              case measure => omega
              case rel => exact ⟨i + 1, _, best, by omega, by omega, by omega, by go_num, rfl, HVB, HN, HBr⟩
            | true =>
              have hask := HDB.out
              rw [hdj] at hask
              generalize hum : used ||| m = um
              have hor : bits .or .i64 (used : Int) (m : Int) = (um : Int) := by rw [or64 used m (lt62 hu (by decide)) (lt62 hm60 (by decide)), hum]
              have HU := Aside0.mk (show um < 2 ^ 60 by rw [← hum]; exact or_lt hu hm60)
              obtain ⟨Y, hYY⟩ : ∃ Y, lgB keyR rows (rows.length - (i + 1)) um (([] : List RowT) ++ [((g, rc), b)]) (([] : List RowT) ++ [((g, rc), b)]) = Y := ⟨_, rfl⟩
              have HN : Aside0 (lgB keyR rows (rows.length - (i + 1)) used ([] : List RowT) (updL Y best) = Z) := ⟨by have := HSTEP.out; (try dsimp only at this); rw [hdj, if_pos rfl, HM.out, hum, hYY] at this; rw [← this]; exact HZ.out⟩
              have HYY := Aside0.mk hYY
              have HUM := Aside0.mk hum
              have hi1 : IntKind.i64.wrap ((i : Int) + 1) = (i : Int) + 1 := wrap64_nat _ (by omega) (by omega)
              clear hdj hum hYY
              go_wp2
              have HRW : Aside0 (kR.R 28 wr.drew B (fun _ => True) (.slice none 0 0) ([] : List RowT)) := ⟨Kd.R_below HR.out (below_drew HBr.out)⟩
              have HBW : Aside0 (B ≤ wr.drew.heap.size) := ⟨Nat.le_trans HB.out HBr.out.size⟩
              have HVW : Aside0 (kR.R 28 wr.drew B (fun _ => True) (.slice A9 best.length c9) best) := ⟨Kd.R_below HVB.out (below_drew (Below.refl _ _))⟩
              have HREC : Aside0 (∀ (v4 : Value) (w4 : World), kR.R 28 w4 B (fun _ => True) v4 (([] : List RowT) ++ [((g, rc), b)]) → Below wr.drew.heap.size wr.drew w4 → Calls Try.prog 72 #[.slice (some ad) rows.length c, .int .i64 ((i : Int) + 1), .int .i64 um, v4] w4 (LgPost B Y w4)) := ⟨fun v4 w4 h1 h2 => by
                have hbw : Below W.heap.size W w4 := (below_drew HBr.out).trans (Below.mono h2 HBr.out.size)
                have := HI.out (rows.length - (i + 1)) (by omega) (i + 1) um (([] : List RowT) ++ [((g, rc), b)]) v4 w4 (by omega) HU.out (by rw [List.length_append, List.length_singleton]; omega) h1 (Nat.le_trans HBW.out h2.size) (Kd.C_below HA.out hbw) (fun x hx => (HOK.out x hx).below hbw)
                rw [HYY.out, show ((i + 1 : Nat) : Int) = (i : Int) + 1 by omega] at this
                exact this⟩
              obtain ⟨SS, hSS⟩ : ∃ SS : World → Prop, SS = (fun w' => w'.cell? (ad.add i) = some (.slice (some ⟨g, 0, none⟩) b.length rc)) := ⟨_, rfl⟩
              have HCX := Aside0.mk hx
              have hadl : (ad.add i).block < wr.heap.size := World.block_lt_of_cell? wr _ hx
              have HSS : Aside0 (∀ w', Below wr.heap.size wr w' → SS w') := ⟨fun w' h => by rw [hSS]; exact (World.cell?_of_block (h.block _ hadl)).trans HCX.out⟩
              have HSO : Aside0 (∀ w', SS w' → w'.cell? (ad.add i) = some (.slice (some ⟨g, 0, none⟩) b.length rc)) := ⟨fun w' h => by rw [hSS] at h; exact h⟩
              clear hSS
              refine wp_region_noPanic ?_
              refine wp_region_held_drew (S := SS) (by kernel_rfl) (HSS.out _ (below_drew (Below.refl _ _))) (fun hHeld => ?_)
              refine H_on 0 45 ?vp0 rfl rfl (by kernel_rfl) (by kernel_rfl) (by kernel_rfl) (by rfl) ?hp0 hHeld ?rp0
              case hp0 => (intro w hSw; have s0 := HSO.out w hSw; go_simp <;> with_reducible rfl)
              simp only [Act.put, List.setIfInBounds_toArray, List.set_cons_zero, List.set_cons_succ]
              refine H_on 1 46 ?vp1 rfl rfl (by kernel_rfl) (by kernel_rfl) (by kernel_rfl) (by rfl) ?hp1 hHeld ?rp1
              case hp1 => (intro w hSw; have s0 := HSO.out w hSw; go_simp <;> with_reducible rfl)
              simp only [Act.put, List.setIfInBounds_toArray, List.set_cons_zero, List.set_cons_succ]
              refine H_on 2 47 ?vp2 rfl rfl (by kernel_rfl) (by kernel_rfl) (by kernel_rfl) (by rfl) ?hp2 hHeld ?rp2
              case hp2 => (intro w hSw; have s0 := HSO.out w hSw; go_simp <;> with_reducible rfl)
              simp only [Act.put, List.setIfInBounds_toArray, List.set_cons_zero, List.set_cons_succ]
              refine H_on 3 48 ?vp3 rfl rfl (by kernel_rfl) (by kernel_rfl) (by kernel_rfl) (by rfl) ?hp3 hHeld ?rp3
              case hp3 => (intro w hSw; have s0 := HSO.out w hSw; go_simp <;> with_reducible rfl)
              simp only [Act.put, List.setIfInBounds_toArray, List.set_cons_zero, List.set_cons_succ]
              refine H_on 4 49 ?vp4 rfl rfl (by kernel_rfl) (by kernel_rfl) (by kernel_rfl) (by rfl) ?hp4 hHeld ?rp4
              case hp4 => (intro w hSw; have s0 := HSO.out w hSw; go_simp <;> with_reducible rfl)
              simp only [Act.put, List.setIfInBounds_toArray, List.set_cons_zero, List.set_cons_succ]
              refine H_on 5 50 ?vp5 rfl rfl (by kernel_rfl) (by kernel_rfl) (by kernel_rfl) (by rfl) ?hp5 hHeld ?rp5
              case hp5 => (intro w hSw; have s0 := HSO.out w hSw; go_simp <;> with_reducible rfl)
              simp only [Act.put, List.setIfInBounds_toArray, List.set_cons_zero, List.set_cons_succ]
              refine H_on 6 51 ?vp6 rfl rfl (by kernel_rfl) (by kernel_rfl) (by kernel_rfl) (by rfl) ?hp6 hHeld ?rp6
              case hp6 => (intro w hSw; have s0 := HSO.out w hSw; go_simp <;> with_reducible rfl)
              simp only [Act.put, List.setIfInBounds_toArray, List.set_cons_zero, List.set_cons_succ]
              refine H_on 7 52 ?vp7 rfl rfl (by kernel_rfl) (by kernel_rfl) (by kernel_rfl) (by rfl) ?hp7 hHeld ?rp7
              case hp7 => (intro w hSw; have s0 := HSO.out w hSw; go_simp <;> with_reducible rfl)
              simp only [Act.put, List.setIfInBounds_toArray, List.set_cons_zero, List.set_cons_succ]
              refine H_on 8 53 ?vp8 rfl rfl (by kernel_rfl) (by kernel_rfl) (by kernel_rfl) (by rfl) ?hp8 hHeld ?rp8
              case hp8 => (intro w hSw; have s0 := HSO.out w hSw; go_simp <;> with_reducible rfl)
              simp only [Act.put, List.setIfInBounds_toArray, List.set_cons_zero, List.set_cons_succ]
              refine H_on 9 54 ?vp9 rfl rfl (by kernel_rfl) (by kernel_rfl) (by kernel_rfl) (by rfl) ?hp9 hHeld ?rp9
              case hp9 => (intro w hSw; have s0 := HSO.out w hSw; go_simp <;> with_reducible rfl)
              simp only [Act.put, List.setIfInBounds_toArray, List.set_cons_zero, List.set_cons_succ]
              refine H_on 10 55 ?vp10 rfl rfl (by kernel_rfl) (by kernel_rfl) (by kernel_rfl) (by rfl) ?hp10 hHeld ?rp10
              case hp10 => (intro w hSw; have s0 := HSO.out w hSw; go_simp <;> with_reducible rfl)
              simp only [Act.put, List.setIfInBounds_toArray, List.set_cons_zero, List.set_cons_succ]
              refine H_on 11 56 ?vp11 rfl rfl (by kernel_rfl) (by kernel_rfl) (by kernel_rfl) (by rfl) ?hp11 hHeld ?rp11
              case hp11 => (intro w hSw; have s0 := HSO.out w hSw; go_simp <;> with_reducible rfl)
              simp only [Act.put, List.setIfInBounds_toArray, List.set_cons_zero, List.set_cons_succ]
              refine H_on 12 57 ?vp12 rfl rfl (by kernel_rfl) (by kernel_rfl) (by kernel_rfl) (by rfl) ?hp12 hHeld ?rp12
              case hp12 => (intro w hSw; have s0 := HSO.out w hSw; go_simp <;> with_reducible rfl)
              simp only [Act.put, List.setIfInBounds_toArray, List.set_cons_zero, List.set_cons_succ]
              refine H_on 13 58 ?vp13 rfl rfl (by kernel_rfl) (by kernel_rfl) (by kernel_rfl) (by rfl) ?hp13 hHeld ?rp13
              case hp13 => (intro w hSw; have s0 := HSO.out w hSw; go_simp <;> with_reducible rfl)
              simp only [Act.put, List.setIfInBounds_toArray, List.set_cons_zero, List.set_cons_succ]
              refine H_on 14 59 ?vp14 rfl rfl (by kernel_rfl) (by kernel_rfl) (by kernel_rfl) (by rfl) ?hp14 hHeld ?rp14
              case hp14 => (intro w hSw; have s0 := HSO.out w hSw; go_simp <;> with_reducible rfl)
              simp only [Act.put, List.setIfInBounds_toArray, List.set_cons_zero, List.set_cons_succ]
              refine H_on 15 60 ?vp15 rfl rfl (by kernel_rfl) (by kernel_rfl) (by kernel_rfl) (by rfl) ?hp15 hHeld ?rp15
              case hp15 => (intro w hSw; have s0 := HSO.out w hSw; go_simp <;> with_reducible rfl)
              simp only [Act.put, List.setIfInBounds_toArray, List.set_cons_zero, List.set_cons_succ]
              refine wpAnyH_ready (rs := [16]) (by kernel_rfl) (by simp) ?_
              refine AllReadyH.cons rfl (fun K hK => ?_) AllReadyH.nil
              go_simp
              refine hK.out _ _ (HSS.out _ (below_alloc (below_drew (Below.refl _ _)) _)) (fun hHeld => ?_)
              clear hK K
              try simp only [Act.put, List.setIfInBounds_toArray, List.set_cons_zero, List.set_cons_succ]
              refine wpAnyH_ready (rs := [17]) (by kernel_rfl) (by simp) ?_
              refine AllReadyH.cons rfl (fun K hK => ?_) AllReadyH.nil
              refine step_appendR (W := wr.drew) (B := B) (A1 := none) (n := 0) (c1 := 0) (now := ([] : List RowT)) ((g, rc), b) (by rfl) _ _ rfl rfl rfl HRW.out HBW.out (by omega) ?_
              intro v4 w4 hR4 hb4
              have HR4 := Aside0.mk hR4
              have HB4 := Aside0.mk hb4
              clear hR4 hb4
              refine hK.out _ _ (HSS.out _ (below_then (below_drew (Below.refl _ _)) (Nat.le_refl _) HB4.out)) (fun hHeld => ?_)
              clear hK K
              try simp only [Act.put, List.setIfInBounds_toArray, List.set_cons_zero, List.set_cons_succ]
              refine wpAnyH_ready (rs := [18]) (by kernel_rfl) (by simp) ?_
              refine AllReadyH.cons rfl (fun K hK => ?_) AllReadyH.nil
              go_simp
              refine (HREC.out v4 w4 HR4.out HB4.out).mono ?_
              rintro e w5 ⟨v5, rfl, hR5, hb5⟩
              obtain ⟨A5, c5, hv5, _, _⟩ := Kd.R_reads hR5
              subst hv5
              have HR5 := Aside0.mk hR5
              have HB5 : Aside0 (Below wr.heap.size wr w5) := ⟨below_then (below_then (below_drew (Below.refl _ _)) (Nat.le_refl _) HB4.out) HB4.out.size hb5⟩
              clear hR5 hb5
              go_wp2_with fail
              refine hK.out _ _ (HSS.out _ HB5.out) (fun hHeld => ?_)
              clear hK K
              try simp only [Act.put, List.setIfInBounds_toArray, List.set_cons_zero, List.set_cons_succ]
              refine H_on 19 13 ?vp19 rfl rfl (by kernel_rfl) (by kernel_rfl) (by kernel_rfl) (by rfl) ?hp19 hHeld ?rp19
              case hp19 => (intro w hSw; have s0 := HSO.out w hSw; go_simp <;> with_reducible rfl)
              simp only [Act.put, List.setIfInBounds_toArray, List.set_cons_zero, List.set_cons_succ]
              refine wpAnyH_done (by kernel_rfl) ?_ _
              refine NoPanic.normal ?_
              clear hHeld HSS HSO HREC HCX
              have HBF : Aside0 (Below W.heap.size W w5) := ⟨below_then HBr.out HBr.out.size HB5.out⟩
              by_cases hlt : best.length < Y.length
              · have hltz : (best.length : Int) < (Y.length : Int) := by omega
                have HUP : Aside0 (updL Y best = Y) := ⟨by unfold updL; rw [if_pos hlt]⟩
                go_wp2
                go_roundg (rows.length - (i + 1))
                case measure => omega
                case rel => exact ⟨i + 1, _, Y, by omega, by omega, by omega, by go_num, rfl, HR5, ⟨by rw [← HN.out, HUP.out]⟩, HBF⟩
              · have hltz : ¬ (best.length : Int) < (Y.length : Int) := by omega
                have HUP : Aside0 (updL Y best = best) := ⟨by unfold updL; rw [if_neg hlt]⟩
                go_wp2
                go_roundg (rows.length - (i + 1))
                case measure => omega
                case rel => exact ⟨i + 1, _, best, by omega, by omega, by omega, by go_num, rfl, ⟨Kd.R_below HVB.out HB5.out⟩, ⟨by rw [← HN.out, HUP.out]⟩, HBF⟩
      · have hilz : ¬ (i : Int) < (rows.length : Int) := by omega
        obtain rfl : i = rows.length := by omega
        have hfin : best = Z := by rw [← HZ.out, Nat.sub_self]; rfl
        go_wp2
        go_ret
        exact ⟨_, rfl, by rw [← hfin]; exact HVB.out, HBr.out⟩
  · go_enter Try.func72, Try.ntmps72
    go_wp2
    go_loopg [9, 10, 11, 12, 13] rows.length (fun gg v9 v10 _ _ _ wr => ∃ (i : Nat) (vq : Value) (best : List RowT), i ≤ rows.length ∧ fr ≤ i ∧ rows.length - i ≤ gg ∧ v10 = .int .i64 i ∧ vq = v9 ∧ Aside0 (kR.R 28 wr B (fun _ => True) vq best) ∧ Aside0 (lgB keyR rows (rows.length - i) used now best = Z) ∧ Aside0 (Below W.heap.size W wr))
    case atStart => exact ⟨fr, _, now, by omega, Nat.le_refl _, by omega, rfl, rfl, HR, ⟨by rw [show rows.length - fr = d by omega]; exact HZ.out⟩, ⟨Below.refl _ _⟩⟩
    case round =>
      clear HZ
      obtain ⟨i, vq, best, hi, hfi, hgg, rfl, hvq, HVB, HZ, HBr⟩ := hrel
      subst hvq
      obtain ⟨A9, c9, hv9, _, _⟩ := Kd.R_reads HVB.out
      subst hv9
      by_cases hil : i < rows.length
      · have hilz : (i : Int) < (rows.length : Int) := by omega
        obtain ⟨ad, had, hx0⟩ := ReadsOf.at_ (Kd.reads_of_C (d := default) (Kd.C_below HA.out HBr.out)) (i : Int) (by omega) (by omega)
        subst had
        rw [Int.toNat_natCast] at hx0
        have hrd : rdOf default rows (i : Int) = rows.getD i default := by simp [rdOf]
        rw [hrd] at hx0
        have hmem : rows.getD i default ∈ rows := getD_mem default hil
        generalize hy : rows.getD i default = y at hx0 hmem
        have HY := Aside0.mk hy
        have HMEM := Aside0.mk hmem
        obtain ⟨⟨g, rc⟩, b⟩ := y
        have hx : wr.cell? (ad.add i) = some (.slice (some ⟨g, 0, none⟩) b.length rc) := hx0
        have hok := (HOK.out _ hmem).below HBr.out
        have HRO := Aside0.mk hok
        have hbl : b.length ≤ 1000 := hok.2.1
        have HB20 : Aside0 (∀ i ∈ b, 0 ≤ i ∧ i < 20) := ⟨(HBD.out _ hmem).1⟩
        have HSS : Aside0 (sumI b = setI b) := ⟨(HBD.out _ hmem).2⟩
        have HSTEP := Aside0.mk (lg_step hil hy used now best)
        clear hx0 hrd hmem hy hok
        go_wp2
        go_loopg [11, 12] b.length (fun g2 v11 v12 w2 => ∃ k : Nat, k ≤ b.length ∧ b.length - k ≤ g2 ∧ v12 = .int .i64 k ∧ v11 = .int .i64 ((sumI (b.take k) : Nat) : Int) ∧ wr = w2)
        case atStart => exact ⟨0, Nat.zero_le _, by omega, rfl, rfl, rfl⟩
        case round =>
          obtain ⟨k, hk, hg2, rfl, rfl, rfl⟩ := hrel
          by_cases hkl : k < b.length
          · have hklz : (k : Int) < (b.length : Int) := by omega
            obtain ⟨ad3, hr3, hx3⟩ := Kd.at_int HRO.out.2.2.2.2 (k : Int) (by omega) (show (k : Int) < (b.length : Int) by omega)
            cases hr3
            rw [Int.toNat_natCast] at hx3
            have hrd3 : rd b (k : Int) = b.getD k 0 := by simp [rd]
            have hin := HB20.out _ (getD_mem 0 hkl)
            obtain ⟨a, ha⟩ := Int.eq_ofNat_of_zero_le hin.1
            have hx4 : wr.cell? ⟨g, k, none⟩ = some (.int .i64 (a : Int)) := by
              rw [← ha, ← hrd3]
              have : (⟨g, 0, none⟩ : Addr).add k = ⟨g, k, none⟩ := by rw [add_at, Nat.zero_add]
              rw [← this]; exact hx3
            have ha20 : a < 20 := by omega
            have hset := take_sum hkl ha
            have HSET := Aside0.mk hset
            have hsl := sumI_le HB20.out k hk
            have h2a : 2 ^ a ≤ 2 ^ 20 := Nat.pow_le_pow_right (by decide) (by omega)
            have hsk : k * 2 ^ 20 ≤ 1000 * 2 ^ 20 := Nat.mul_le_mul_right _ (by omega)
            generalize hs : sumI (b.take k) = m at hsl HSET ⊢
            have hwa := two_wrap (show a < 60 by omega)
            have HWS : Aside0 (IntKind.i64.wrap ((m : Int) + 2 ^ a) = ((m + 2 ^ a : Nat) : Int)) := ⟨by rw [pow_cast, ← Int.natCast_add]; exact wrap64_nat _ (Int.natCast_nonneg _) (by have e1 : (2 : Nat) ^ 20 = 1048576 := rfl; rw [e1] at *; exact_mod_cast (show m + 2 ^ a < 2 ^ 62 by have e2 : (2 : Nat) ^ 62 = 4611686018427387904 := rfl; omega))⟩
            have hws := HWS.out
            clear hrd3 hin ha hset hx3 h2a hsk hsl hs
            go_wp2
            go_roundg (b.length - (k + 1))
            case measure => omega
            case rel => exact ⟨k + 1, by omega, by omega, by go_num, by rw [HSET.out, Int.natCast_add, Int.natCast_pow]; rfl, rfl⟩
          · have hklz : ¬ (k : Int) < (b.length : Int) := by omega
            obtain rfl : k = b.length := by omega
            rw [List.take_length, HSS.out]
            have hm60 := setIn_ltB (fun j hj => by have := HB20.out j hj; omega) b.length
            rw [List.take_length] at hm60
            have HDB := Aside0.mk (ask_disj (used := used) (b := b) rfl hm60 hu)
            generalize hs : setI b = m at hm60 HDB ⊢
            have HM := Aside0.mk hs
            clear hs
            cases hdj : disjB used b with
            | false =>
              have hask := HDB.out
              rw [hdj] at hask
              have HN : Aside0 (lgB keyR rows (rows.length - (i + 1)) used now best = Z) := ⟨by have := HSTEP.out; (try dsimp only at this); rw [hdj, if_neg Bool.false_ne_true] at this; rw [← this]; exact HZ.out⟩
              clear hdj
              go_wp2
              go_roundg (rows.length - (i + 1))
              case measure => omega
              case rel => exact ⟨i + 1, _, best, by omega, by omega, by omega, by go_num, rfl, HVB, HN, HBr⟩
            | true =>
              have hask := HDB.out
              rw [hdj] at hask
              generalize hum : used ||| m = um
              have hor : bits .or .i64 (used : Int) (m : Int) = (um : Int) := by rw [or64 used m (lt62 hu (by decide)) (lt62 hm60 (by decide)), hum]
              have HU := Aside0.mk (show um < 2 ^ 60 by rw [← hum]; exact or_lt hu hm60)
              obtain ⟨Y, hYY⟩ : ∃ Y, lgB keyR rows (rows.length - (i + 1)) um (now ++ [((g, rc), b)]) (now ++ [((g, rc), b)]) = Y := ⟨_, rfl⟩
              have HN : Aside0 (lgB keyR rows (rows.length - (i + 1)) used now (updL Y best) = Z) := ⟨by have := HSTEP.out; (try dsimp only at this); rw [hdj, if_pos rfl, HM.out, hum, hYY] at this; rw [← this]; exact HZ.out⟩
              have HYY := Aside0.mk hYY
              have HUM := Aside0.mk hum
              have hi1 : IntKind.i64.wrap ((i : Int) + 1) = (i : Int) + 1 := wrap64_nat _ (by omega) (by omega)
              clear hdj hum hYY
              go_wp2
              have HRW : Aside0 (kR.R 28 wr.drew B (fun _ => True) (.slice (some ad2) now.length c2) now) := ⟨Kd.R_below HR.out (below_drew HBr.out)⟩
              have HBW : Aside0 (B ≤ wr.drew.heap.size) := ⟨Nat.le_trans HB.out HBr.out.size⟩
              have HVW : Aside0 (kR.R 28 wr.drew B (fun _ => True) (.slice A9 best.length c9) best) := ⟨Kd.R_below HVB.out (below_drew (Below.refl _ _))⟩
              have HREC : Aside0 (∀ (v4 : Value) (w4 : World), kR.R 28 w4 B (fun _ => True) v4 (now ++ [((g, rc), b)]) → Below wr.drew.heap.size wr.drew w4 → Calls Try.prog 72 #[.slice (some ad) rows.length c, .int .i64 ((i : Int) + 1), .int .i64 um, v4] w4 (LgPost B Y w4)) := ⟨fun v4 w4 h1 h2 => by
                have hbw : Below W.heap.size W w4 := (below_drew HBr.out).trans (Below.mono h2 HBr.out.size)
                have := HI.out (rows.length - (i + 1)) (by omega) (i + 1) um (now ++ [((g, rc), b)]) v4 w4 (by omega) HU.out (by rw [List.length_append, List.length_singleton]; omega) h1 (Nat.le_trans HBW.out h2.size) (Kd.C_below HA.out hbw) (fun x hx => (HOK.out x hx).below hbw)
                rw [HYY.out, show ((i + 1 : Nat) : Int) = (i : Int) + 1 by omega] at this
                exact this⟩
              obtain ⟨SS, hSS⟩ : ∃ SS : World → Prop, SS = (fun w' => w'.cell? (ad.add i) = some (.slice (some ⟨g, 0, none⟩) b.length rc)) := ⟨_, rfl⟩
              have HCX := Aside0.mk hx
              have hadl : (ad.add i).block < wr.heap.size := World.block_lt_of_cell? wr _ hx
              have HSS : Aside0 (∀ w', Below wr.heap.size wr w' → SS w') := ⟨fun w' h => by rw [hSS]; exact (World.cell?_of_block (h.block _ hadl)).trans HCX.out⟩
              have HSO : Aside0 (∀ w', SS w' → w'.cell? (ad.add i) = some (.slice (some ⟨g, 0, none⟩) b.length rc)) := ⟨fun w' h => by rw [hSS] at h; exact h⟩
              clear hSS
              refine wp_region_noPanic ?_
              refine wp_region_held_drew (S := SS) (by kernel_rfl) (HSS.out _ (below_drew (Below.refl _ _))) (fun hHeld => ?_)
              refine H_on 0 45 ?vq0 rfl rfl (by kernel_rfl) (by kernel_rfl) (by kernel_rfl) (by rfl) ?hq0 hHeld ?rq0
              case hq0 => (intro w hSw; have s0 := HSO.out w hSw; go_simp <;> with_reducible rfl)
              simp only [Act.put, List.setIfInBounds_toArray, List.set_cons_zero, List.set_cons_succ]
              refine H_on 1 46 ?vq1 rfl rfl (by kernel_rfl) (by kernel_rfl) (by kernel_rfl) (by rfl) ?hq1 hHeld ?rq1
              case hq1 => (intro w hSw; have s0 := HSO.out w hSw; go_simp <;> with_reducible rfl)
              simp only [Act.put, List.setIfInBounds_toArray, List.set_cons_zero, List.set_cons_succ]
              refine H_on 2 47 ?vq2 rfl rfl (by kernel_rfl) (by kernel_rfl) (by kernel_rfl) (by rfl) ?hq2 hHeld ?rq2
              case hq2 => (intro w hSw; have s0 := HSO.out w hSw; go_simp <;> with_reducible rfl)
              simp only [Act.put, List.setIfInBounds_toArray, List.set_cons_zero, List.set_cons_succ]
              refine H_on 3 48 ?vq3 rfl rfl (by kernel_rfl) (by kernel_rfl) (by kernel_rfl) (by rfl) ?hq3 hHeld ?rq3
              case hq3 => (intro w hSw; have s0 := HSO.out w hSw; go_simp <;> with_reducible rfl)
              simp only [Act.put, List.setIfInBounds_toArray, List.set_cons_zero, List.set_cons_succ]
              refine H_on 4 49 ?vq4 rfl rfl (by kernel_rfl) (by kernel_rfl) (by kernel_rfl) (by rfl) ?hq4 hHeld ?rq4
              case hq4 => (intro w hSw; have s0 := HSO.out w hSw; go_simp <;> with_reducible rfl)
              simp only [Act.put, List.setIfInBounds_toArray, List.set_cons_zero, List.set_cons_succ]
              refine H_on 5 50 ?vq5 rfl rfl (by kernel_rfl) (by kernel_rfl) (by kernel_rfl) (by rfl) ?hq5 hHeld ?rq5
              case hq5 => (intro w hSw; have s0 := HSO.out w hSw; go_simp <;> with_reducible rfl)
              simp only [Act.put, List.setIfInBounds_toArray, List.set_cons_zero, List.set_cons_succ]
              refine H_on 6 51 ?vq6 rfl rfl (by kernel_rfl) (by kernel_rfl) (by kernel_rfl) (by rfl) ?hq6 hHeld ?rq6
              case hq6 => (intro w hSw; have s0 := HSO.out w hSw; go_simp <;> with_reducible rfl)
              simp only [Act.put, List.setIfInBounds_toArray, List.set_cons_zero, List.set_cons_succ]
              refine H_on 7 52 ?vq7 rfl rfl (by kernel_rfl) (by kernel_rfl) (by kernel_rfl) (by rfl) ?hq7 hHeld ?rq7
              case hq7 => (intro w hSw; have s0 := HSO.out w hSw; go_simp <;> with_reducible rfl)
              simp only [Act.put, List.setIfInBounds_toArray, List.set_cons_zero, List.set_cons_succ]
              refine H_on 8 53 ?vq8 rfl rfl (by kernel_rfl) (by kernel_rfl) (by kernel_rfl) (by rfl) ?hq8 hHeld ?rq8
              case hq8 => (intro w hSw; have s0 := HSO.out w hSw; go_simp <;> with_reducible rfl)
              simp only [Act.put, List.setIfInBounds_toArray, List.set_cons_zero, List.set_cons_succ]
              refine H_on 9 54 ?vq9 rfl rfl (by kernel_rfl) (by kernel_rfl) (by kernel_rfl) (by rfl) ?hq9 hHeld ?rq9
              case hq9 => (intro w hSw; have s0 := HSO.out w hSw; go_simp <;> with_reducible rfl)
              simp only [Act.put, List.setIfInBounds_toArray, List.set_cons_zero, List.set_cons_succ]
              refine H_on 10 55 ?vq10 rfl rfl (by kernel_rfl) (by kernel_rfl) (by kernel_rfl) (by rfl) ?hq10 hHeld ?rq10
              case hq10 => (intro w hSw; have s0 := HSO.out w hSw; go_simp <;> with_reducible rfl)
              simp only [Act.put, List.setIfInBounds_toArray, List.set_cons_zero, List.set_cons_succ]
              refine H_on 11 56 ?vq11 rfl rfl (by kernel_rfl) (by kernel_rfl) (by kernel_rfl) (by rfl) ?hq11 hHeld ?rq11
              case hq11 => (intro w hSw; have s0 := HSO.out w hSw; go_simp <;> with_reducible rfl)
              simp only [Act.put, List.setIfInBounds_toArray, List.set_cons_zero, List.set_cons_succ]
              refine H_on 12 57 ?vq12 rfl rfl (by kernel_rfl) (by kernel_rfl) (by kernel_rfl) (by rfl) ?hq12 hHeld ?rq12
              case hq12 => (intro w hSw; have s0 := HSO.out w hSw; go_simp <;> with_reducible rfl)
              simp only [Act.put, List.setIfInBounds_toArray, List.set_cons_zero, List.set_cons_succ]
              refine H_on 13 58 ?vq13 rfl rfl (by kernel_rfl) (by kernel_rfl) (by kernel_rfl) (by rfl) ?hq13 hHeld ?rq13
              case hq13 => (intro w hSw; have s0 := HSO.out w hSw; go_simp <;> with_reducible rfl)
              simp only [Act.put, List.setIfInBounds_toArray, List.set_cons_zero, List.set_cons_succ]
              refine H_on 14 59 ?vq14 rfl rfl (by kernel_rfl) (by kernel_rfl) (by kernel_rfl) (by rfl) ?hq14 hHeld ?rq14
              case hq14 => (intro w hSw; have s0 := HSO.out w hSw; go_simp <;> with_reducible rfl)
              simp only [Act.put, List.setIfInBounds_toArray, List.set_cons_zero, List.set_cons_succ]
              refine H_on 15 60 ?vq15 rfl rfl (by kernel_rfl) (by kernel_rfl) (by kernel_rfl) (by rfl) ?hq15 hHeld ?rq15
              case hq15 => (intro w hSw; have s0 := HSO.out w hSw; go_simp <;> with_reducible rfl)
              simp only [Act.put, List.setIfInBounds_toArray, List.set_cons_zero, List.set_cons_succ]
              refine wpAnyH_ready (rs := [16]) (by kernel_rfl) (by simp) ?_
              refine AllReadyH.cons rfl (fun K hK => ?_) AllReadyH.nil
              go_simp
              refine hK.out _ _ (HSS.out _ (below_alloc (below_drew (Below.refl _ _)) _)) (fun hHeld => ?_)
              clear hK K
              try simp only [Act.put, List.setIfInBounds_toArray, List.set_cons_zero, List.set_cons_succ]
              refine wpAnyH_ready (rs := [17]) (by kernel_rfl) (by simp) ?_
              refine AllReadyH.cons rfl (fun K hK => ?_) AllReadyH.nil
              refine step_appendR (W := wr.drew) (B := B) (A1 := (some ad2)) (n := now.length) (c1 := c2) (now := now) ((g, rc), b) (by rfl) _ _ rfl rfl rfl HRW.out HBW.out (by omega) ?_
              intro v4 w4 hR4 hb4
              have HR4 := Aside0.mk hR4
              have HB4 := Aside0.mk hb4
              clear hR4 hb4
              refine hK.out _ _ (HSS.out _ (below_then (below_drew (Below.refl _ _)) (Nat.le_refl _) HB4.out)) (fun hHeld => ?_)
              clear hK K
              try simp only [Act.put, List.setIfInBounds_toArray, List.set_cons_zero, List.set_cons_succ]
              refine wpAnyH_ready (rs := [18]) (by kernel_rfl) (by simp) ?_
              refine AllReadyH.cons rfl (fun K hK => ?_) AllReadyH.nil
              go_simp
              refine (HREC.out v4 w4 HR4.out HB4.out).mono ?_
              rintro e w5 ⟨v5, rfl, hR5, hb5⟩
              obtain ⟨A5, c5, hv5, _, _⟩ := Kd.R_reads hR5
              subst hv5
              have HR5 := Aside0.mk hR5
              have HB5 : Aside0 (Below wr.heap.size wr w5) := ⟨below_then (below_then (below_drew (Below.refl _ _)) (Nat.le_refl _) HB4.out) HB4.out.size hb5⟩
              clear hR5 hb5
              go_wp2_with fail
              refine hK.out _ _ (HSS.out _ HB5.out) (fun hHeld => ?_)
              clear hK K
              try simp only [Act.put, List.setIfInBounds_toArray, List.set_cons_zero, List.set_cons_succ]
              refine H_on 19 13 ?vq19 rfl rfl (by kernel_rfl) (by kernel_rfl) (by kernel_rfl) (by rfl) ?hq19 hHeld ?rq19
              case hq19 => (intro w hSw; have s0 := HSO.out w hSw; go_simp <;> with_reducible rfl)
              simp only [Act.put, List.setIfInBounds_toArray, List.set_cons_zero, List.set_cons_succ]
              refine wpAnyH_done (by kernel_rfl) ?_ _
              refine NoPanic.normal ?_
              clear hHeld HSS HSO HREC HCX
              have HBF : Aside0 (Below W.heap.size W w5) := ⟨below_then HBr.out HBr.out.size HB5.out⟩
              by_cases hlt : best.length < Y.length
              · have hltz : (best.length : Int) < (Y.length : Int) := by omega
                have HUP : Aside0 (updL Y best = Y) := ⟨by unfold updL; rw [if_pos hlt]⟩
                go_wp2
                go_roundg (rows.length - (i + 1))
                case measure => omega
                case rel => exact ⟨i + 1, _, Y, by omega, by omega, by omega, by go_num, rfl, HR5, ⟨by rw [← HN.out, HUP.out]⟩, HBF⟩
              · have hltz : ¬ (best.length : Int) < (Y.length : Int) := by omega
                have HUP : Aside0 (updL Y best = best) := ⟨by unfold updL; rw [if_neg hlt]⟩
                go_wp2
                go_roundg (rows.length - (i + 1))
                case measure => omega
                case rel => exact ⟨i + 1, _, best, by omega, by omega, by omega, by go_num, rfl, ⟨Kd.R_below HVB.out HB5.out⟩, ⟨by rw [← HN.out, HUP.out]⟩, HBF⟩
      · have hilz : ¬ (i : Int) < (rows.length : Int) := by omega
        obtain rfl : i = rows.length := by omega
        have hfin : best = Z := by rw [← HZ.out, Nat.sub_self]; rfl
        go_wp2
        go_ret
        exact ⟨_, rfl, by rw [← hfin]; exact HVB.out, HBr.out⟩
theorem lg_all (rows : List RowT) (A : Option Addr) (c B : Nat) (hal : rows.length ≤ 100000) (hbd : ∀ x ∈ rows, (∀ i ∈ x.2, 0 ≤ i ∧ i < 20) ∧ sumI x.2 = setI x.2) (d : Nat) : LgSaid rows A c B d := Nat.strongRecOn d fun d ih => lg_one rows A c B hal hbd d ih
end Go.Proofs.Ytaegldcifhgnmaa.B

/- The specification's Ring and Spoilt: what they return. (Printed by gen_q6.py.) -/
namespace Go.Proofs.Ytaegldcifhgnmaa.B
open Go.Proofs.Ytaegldcifhgnmaa.A
open Go.RowKit Go.Proofs.YtaegldcifhgnmaaW.PrintWords Go.Proofs.YtaegldcifhgnmaaW.PrintMore

def rRingF (one : Bool) (n : Int) (l : List S39) : List Int × Int := if tiesE n l = 0 then ringZ (shortR l one n.toNat) else ([], tiesE n l)
theorem ties_calls (n : Int) (A : Option Addr) (c : Nat) (l : List S39) (w : World) (hr : Kd.C k39 w A l.length l) (hc : l.length ≤ c) (hl : l.length ≤ 1000) (E : Int) (hE : tiesE n l = E) :
    Calls Try.prog 24 #[.int .i64 n, .slice A l.length c] w fun e w' => e = .returned (.int .i64 E) ∧ Below w.heap.size w w' := by
  obtain ⟨k, hk⟩ := (Ties_ev (n := n) hl).rounds
  rw [hE] at hk
  exact (drovewayref09_Ties.calls k n A c l E w hr hc hk).mono fun _ _ ⟨p, q⟩ => ⟨p, q.below⟩

set_option maxRecDepth 100000 in
set_option maxHeartbeats 800000 in
theorem rRing_err (n : Int) (A : Option Addr) (c : Nat) (l : List S39) (w : World) (hr : Kd.C k39 w A l.length l) (hc : l.length ≤ c) (hl : l.length ≤ 1000) (E : Int) (h : tiesE n l = E) (h0 : E ≠ 0) :
    Calls Try.prog 21 #[.int .i64 n, .slice A l.length c] w (FoundPost ([], E) w) := by
  have HR := Aside0.mk hr
  have HC := Aside0.mk hc
  have HE := Aside0.mk h
  have hg := errne h0
  clear hr h h0 hc
  go_enter Try.func21, Try.ntmps21
  go_wp2_with (go_at_call 24; refine (ties_calls n A c l _ HR.out HC.out hl E HE.out).mono ?_; rintro e w' ⟨rfl, hb'⟩; have HB := Aside0.mk hb'; clear hb')
  go_ret2
  exact ⟨_, rfl, Kd.R_nil _ _ _ _ _, HB.out⟩
set_option maxRecDepth 100000 in
set_option maxHeartbeats 800000 in
theorem rRing_good (m : Nat) (A : Option Addr) (c : Nat) (l : List S39) (w : World) (hr : Kd.C k39 w A l.length l) (hc : l.length ≤ c) (h : tiesE m l = 0) :
    Calls Try.prog 21 #[.int .i64 m, .slice A l.length c] w (FoundPost (ringZ (shortR l false m)) w) := by
  have hm : m ≤ 800 := by have := (tiesE_parts h).1; omega
  have hl : l.length ≤ 1000 := by have := (tiesE_parts h).2.1; omega
  have HR := Aside0.mk hr
  have HC := Aside0.mk hc
  have HS := Aside0.mk (tiesE_good h)
  have HE := Aside0.mk h
  obtain ⟨S, hS⟩ : ∃ S, shortR l false m = S := ⟨_, rfl⟩
  have HSS := Aside0.mk hS
  rw [hS]
  clear hr h hS hc
  cases S with
  | none =>
    have hnil := fun (w : World) => run_eql_slice_nil w 28 3 none 0 0 Try.underlying28
    go_enter Try.func21, Try.ntmps21
    go_wp2_with (first
      | (go_at_call 24; refine (ties_calls m A c l _ HR.out HC.out hl 0 HE.out).mono ?_; rintro e w1 ⟨rfl, hb1⟩; have HB1 := Aside0.mk hb1; clear hb1)
      | (go_at_call 51; go_must (refine (shortest_calls l HS.out hl false A c m HC.out hm _ (Kd.C_below HR.out HB1.out)).mono ?_; rw [HSS.out]; rintro e w2 ⟨v2, rfl, hr2, hv0, hv1, hb2⟩; have HR2 := Aside0.mk (Kd.R_lower hr2 HB1.out.size); have HB2 := Aside0.mk (below_then HB1.out HB1.out.size hb2); clear hr2 hb2; obtain rfl := hv0 rfl; clear hv0 hv1)))
    go_ret2
    exact ⟨_, rfl, Kd.R_nil _ _ _ _ _, HB2.out⟩
  | some b =>
    go_enter Try.func21, Try.ntmps21
    go_wp2_with (first
      | (go_at_call 24; refine (ties_calls m A c l _ HR.out HC.out hl 0 HE.out).mono ?_; rintro e w1 ⟨rfl, hb1⟩; have HB1 := Aside0.mk hb1; clear hb1)
      | (go_at_call 51; go_must (refine (shortest_calls l HS.out hl false A c m HC.out hm _ (Kd.C_below HR.out HB1.out)).mono ?_; rw [HSS.out]; rintro e w2 ⟨v2, rfl, hr2, hv0, hv1, hb2⟩; have HR2 := Aside0.mk (Kd.R_lower hr2 HB1.out.size); have HB2 := Aside0.mk (below_then HB1.out HB1.out.size hb2); clear hr2 hb2; obtain ⟨ad, n2, c2, rfl⟩ := hv1 (by simp); have hnil := fun (w : World) => run_eql_slice_nil w 28 3 (some ad) n2 c2 Try.underlying28; clear hv0)))
    go_ret2
    exact ⟨_, rfl, HR2.out, HB2.out⟩
def drovewayref09_Ring.f (a0 : Int) (l1 : List S39) : Option (List Int × Int) := if l1.length ≤ 1000 then some (rRingF false a0 l1) else none
theorem drovewayref09_Ring.calls (a0 : Int) (A1 : Option Addr) (c1 : Nat) (l1 : List S39) (r1 : List Int) (r2 : Int) (w : World) (hr1 : Kd.C k39 w A1 l1.length l1) (hc1 : l1.length ≤ c1) (h : drovewayref09_Ring.f a0 l1 = some (r1, r2)) :
    Calls Try.prog 21 #[.int .i64 a0, .slice A1 l1.length c1] w fun e w' => ∃ v0_ : Value, e = .returned (.tuple #[v0_, .int .i64 r2]) ∧ Kd.R (Kd.int .i64) 3 w' w.heap.size (fun _ => True) v0_ r1 ∧ Below w.heap.size w w' := by
  unfold drovewayref09_Ring.f at h
  by_cases hl : l1.length ≤ 1000
  · rw [if_pos hl] at h
    have h := Option.some.inj h
    unfold rRingF at h
    by_cases h0 : tiesE a0 l1 = 0
    · rw [if_pos h0] at h
      have h1 := tiesE_parts h0
      obtain ⟨m, rfl⟩ : ∃ m : Nat, a0 = m := ⟨a0.toNat, by omega⟩
      rw [Int.toNat_natCast] at h
      have := rRing_good m A1 c1 l1 w hr1 hc1 h0
      rw [h] at this
      exact this
    · rw [if_neg h0] at h
      have := rRing_err a0 A1 c1 l1 w hr1 hc1 hl _ rfl h0
      rw [h] at this
      exact this
  · rw [if_neg hl] at h; exact absurd h (by simp)

set_option maxRecDepth 100000 in
set_option maxHeartbeats 800000 in
theorem rSpoilt_err (n : Int) (A : Option Addr) (c : Nat) (l : List S39) (w : World) (hr : Kd.C k39 w A l.length l) (hc : l.length ≤ c) (hl : l.length ≤ 1000) (E : Int) (h : tiesE n l = E) (h0 : E ≠ 0) :
    Calls Try.prog 29 #[.int .i64 n, .slice A l.length c] w (FoundPost ([], E) w) := by
  have HR := Aside0.mk hr
  have HC := Aside0.mk hc
  have HE := Aside0.mk h
  have hg := errne h0
  clear hr h h0 hc
  go_enter Try.func29, Try.ntmps29
  go_wp2_with (go_at_call 24; refine (ties_calls n A c l _ HR.out HC.out hl E HE.out).mono ?_; rintro e w' ⟨rfl, hb'⟩; have HB := Aside0.mk hb'; clear hb')
  go_ret2
  exact ⟨_, rfl, Kd.R_nil _ _ _ _ _, HB.out⟩
set_option maxRecDepth 100000 in
set_option maxHeartbeats 800000 in
theorem rSpoilt_good (m : Nat) (A : Option Addr) (c : Nat) (l : List S39) (w : World) (hr : Kd.C k39 w A l.length l) (hc : l.length ≤ c) (h : tiesE m l = 0) :
    Calls Try.prog 29 #[.int .i64 m, .slice A l.length c] w (FoundPost (ringZ (shortR l true m)) w) := by
  have hm : m ≤ 800 := by have := (tiesE_parts h).1; omega
  have hl : l.length ≤ 1000 := by have := (tiesE_parts h).2.1; omega
  have HR := Aside0.mk hr
  have HC := Aside0.mk hc
  have HS := Aside0.mk (tiesE_good h)
  have HE := Aside0.mk h
  obtain ⟨S, hS⟩ : ∃ S, shortR l true m = S := ⟨_, rfl⟩
  have HSS := Aside0.mk hS
  rw [hS]
  clear hr h hS hc
  cases S with
  | none =>
    have hnil := fun (w : World) => run_eql_slice_nil w 28 3 none 0 0 Try.underlying28
    go_enter Try.func29, Try.ntmps29
    go_wp2_with (first
      | (go_at_call 24; refine (ties_calls m A c l _ HR.out HC.out hl 0 HE.out).mono ?_; rintro e w1 ⟨rfl, hb1⟩; have HB1 := Aside0.mk hb1; clear hb1)
      | (go_at_call 51; go_must (refine (shortest_calls l HS.out hl true A c m HC.out hm _ (Kd.C_below HR.out HB1.out)).mono ?_; rw [HSS.out]; rintro e w2 ⟨v2, rfl, hr2, hv0, hv1, hb2⟩; have HR2 := Aside0.mk (Kd.R_lower hr2 HB1.out.size); have HB2 := Aside0.mk (below_then HB1.out HB1.out.size hb2); clear hr2 hb2; obtain rfl := hv0 rfl; clear hv0 hv1)))
    go_ret2
    exact ⟨_, rfl, Kd.R_nil _ _ _ _ _, HB2.out⟩
  | some b =>
    go_enter Try.func29, Try.ntmps29
    go_wp2_with (first
      | (go_at_call 24; refine (ties_calls m A c l _ HR.out HC.out hl 0 HE.out).mono ?_; rintro e w1 ⟨rfl, hb1⟩; have HB1 := Aside0.mk hb1; clear hb1)
      | (go_at_call 51; go_must (refine (shortest_calls l HS.out hl true A c m HC.out hm _ (Kd.C_below HR.out HB1.out)).mono ?_; rw [HSS.out]; rintro e w2 ⟨v2, rfl, hr2, hv0, hv1, hb2⟩; have HR2 := Aside0.mk (Kd.R_lower hr2 HB1.out.size); have HB2 := Aside0.mk (below_then HB1.out HB1.out.size hb2); clear hr2 hb2; obtain ⟨ad, n2, c2, rfl⟩ := hv1 (by simp); have hnil := fun (w : World) => run_eql_slice_nil w 28 3 (some ad) n2 c2 Try.underlying28; clear hv0)))
    go_ret2
    exact ⟨_, rfl, HR2.out, HB2.out⟩
def drovewayref09_Spoilt.f (a0 : Int) (l1 : List S39) : Option (List Int × Int) := if l1.length ≤ 1000 then some (rRingF true a0 l1) else none
theorem drovewayref09_Spoilt.calls (a0 : Int) (A1 : Option Addr) (c1 : Nat) (l1 : List S39) (r1 : List Int) (r2 : Int) (w : World) (hr1 : Kd.C k39 w A1 l1.length l1) (hc1 : l1.length ≤ c1) (h : drovewayref09_Spoilt.f a0 l1 = some (r1, r2)) :
    Calls Try.prog 29 #[.int .i64 a0, .slice A1 l1.length c1] w fun e w' => ∃ v0_ : Value, e = .returned (.tuple #[v0_, .int .i64 r2]) ∧ Kd.R (Kd.int .i64) 3 w' w.heap.size (fun _ => True) v0_ r1 ∧ Below w.heap.size w w' := by
  unfold drovewayref09_Spoilt.f at h
  by_cases hl : l1.length ≤ 1000
  · rw [if_pos hl] at h
    have h := Option.some.inj h
    unfold rRingF at h
    by_cases h0 : tiesE a0 l1 = 0
    · rw [if_pos h0] at h
      have h1 := tiesE_parts h0
      obtain ⟨m, rfl⟩ : ∃ m : Nat, a0 = m := ⟨a0.toNat, by omega⟩
      rw [Int.toNat_natCast] at h
      have := rSpoilt_good m A1 c1 l1 w hr1 hc1 h0
      rw [h] at this
      exact this
    · rw [if_neg h0] at h
      have := rSpoilt_err a0 A1 c1 l1 w hr1 hc1 hl _ rfl h0
      rw [h] at this
      exact this
  · rw [if_neg hl] at h; exact absurd h (by simp)
end Go.Proofs.Ytaegldcifhgnmaa.B

/- The specification's Apart, walked. -/
namespace Go.Proofs.Ytaegldcifhgnmaa.B
open Go.Proofs.Ytaegldcifhgnmaa.A
open Go.RowKit Go.Proofs.YtaegldcifhgnmaaW.PrintWords Go.Proofs.YtaegldcifhgnmaaW.PrintMore

theorem upd_mem {α : Type} {a b : List α} {x : α} (h : x ∈ updL a b) : x ∈ a ∨ x ∈ b := by
  unfold updL at h
  split at h
  · exact .inl h
  · exact .inr h
theorem lg_mem {rows : List RowT} : ∀ d, d ≤ rows.length → ∀ used now best x, x ∈ lgB keyR rows d used now best → x ∈ rows ∨ x ∈ now ∨ x ∈ best
  | 0, _, _, _, _, _, h => .inr (.inr h)
  | d + 1, hd, used, now, best, x, h => by
    rw [lgB] at h
    have hm : rows.getD (rows.length - (d + 1)) default ∈ rows := getD_mem default (by omega)
    rcases lg_mem d (by omega) _ _ _ x h with h | h | h
    · exact .inl h
    · exact .inr (.inl h)
    · split at h
      · rcases upd_mem h with h | h
        · rcases lg_mem d (by omega) _ _ _ x h with h | h | h
          · exact .inl h
          · rcases List.mem_append.mp h with h | h
            · exact .inr (.inl h)
            · rw [List.mem_singleton.mp h]; exact .inl hm
          · rcases List.mem_append.mp h with h | h
            · exact .inr (.inl h)
            · rw [List.mem_singleton.mp h]; exact .inl hm
        · exact .inr (.inr h)
      · exact .inr (.inr h)
theorem tiesE_good8 {n : Int} {l : List S39} (h : tiesE n l = 0) : goodT8 l := by
  intro t ht
  obtain ⟨i, hi, e⟩ := List.getElem_of_mem ht
  have h1 := tiesE_parts h
  have h2 := okT_parts (okTies_parts h1.2.2 hi).1
  have hg : l.getD i z39 = t := by rw [List.getD_eq_getElem?_getD, List.getElem?_eq_getElem hi, e]; rfl
  rw [hg] at h2
  omega

def RApartPost (l : List S39) (w : World) (e : Ending) (w' : World) : Prop :=
  ∃ (v : Value) (rows : List RowT), e = .returned (.tuple #[v, .int .i64 0]) ∧ (rows.map fun x => x.2).Perm (ringsR l) ∧ Asc rows ∧
    kR.R 28 w' w.heap.size (fun _ => True) v (lgB keyR rows rows.length 0 [] []) ∧ (∀ x ∈ lgB keyR rows rows.length 0 [] [], RowOk w' x) ∧ Below w.heap.size w w'

set_option maxRecDepth 100000 in
set_option maxHeartbeats 800000 in
theorem rapart_err (n : Int) (A : Option Addr) (c : Nat) (l : List S39) (w : World) (hr : Kd.C k39 w A l.length l) (hc : l.length ≤ c) (hl : l.length ≤ 1000) (E : Int) (h : tiesE n l = E) (h0 : E ≠ 0) :
    Calls Try.prog 44 #[.int .i64 n, .slice A l.length c] w fun e w' => e = .returned (.tuple #[.slice none 0 0, .int .i64 E]) ∧ Below w.heap.size w w' := by
  have HR := Aside0.mk (ties_calls n A c l w hr hc hl E h)
  have hg := errne h0
  clear hr hc hl h h0
  go_enter Try.func44, Try.ntmps44
  go_wp2_with (go_at_call 24; go_must (refine HR.out.mono ?_; rintro e w' ⟨rfl, hb'⟩; have HB := Aside0.mk hb'; clear hb'))
  go_ret2
  exact ⟨rfl, HB.out⟩
set_option maxRecDepth 100000 in
set_option maxHeartbeats 800000 in
theorem rapart_full (n : Int) (A : Option Addr) (c : Nat) (l : List S39) (w : World) (hr : Kd.C k39 w A l.length l) (hc : l.length ≤ c) (hl : l.length ≤ 1000) (h : tiesE n l = 0) (h0 : 10 < l.length) :
    Calls Try.prog 44 #[.int .i64 n, .slice A l.length c] w fun e w' => e = .returned (.tuple #[.slice none 0 0, .int .i64 8]) ∧ Below w.heap.size w w' := by
  have HR := Aside0.mk (ties_calls n A c l w hr hc hl 0 h)
  have hg : (10 : Int) < (l.length : Int) := by omega
  clear hr hc hl h h0
  go_enter Try.func44, Try.ntmps44
  go_wp2_with (go_at_call 24; go_must (refine HR.out.mono ?_; rintro e w' ⟨rfl, hb'⟩; have HB := Aside0.mk hb'; clear hb'))
  go_ret2
  exact ⟨rfl, HB.out⟩
set_option maxRecDepth 100000 in
set_option maxHeartbeats 1600000 in
theorem rapart_good (n : Int) (A : Option Addr) (c : Nat) (l : List S39) (w : World) (hr : Kd.C k39 w A l.length l) (hc : l.length ≤ c) (h : tiesE n l = 0) (h10 : l.length ≤ 10) (hal : (ringsR l).length ≤ 100000) (hbd : ∀ x ∈ ringsR l, (∀ i ∈ x, 0 ≤ i ∧ i < 20) ∧ sumI x = setI x) :
    Calls Try.prog 44 #[.int .i64 n, .slice A l.length c] w (RApartPost l w) := by
  have HR := Aside0.mk (ties_calls n A c l w hr hc (by omega) 0 h)
  have HA := Aside0.mk hr
  have HC := Aside0.mk hc
  have HG := Aside0.mk (tiesE_good8 h)
  have hg : ¬ (10 : Int) < (l.length : Int) := by omega
  have HAL := Aside0.mk hal
  have HBD := Aside0.mk hbd
  clear hr hc h hal hbd
  go_enter Try.func44, Try.ntmps44
  go_wp2_with (first
    | (go_at_call 24; go_must (refine HR.out.mono ?_; rintro e w1 ⟨rfl, hb1⟩; have HB1 := Aside0.mk hb1; clear hb1))
    | (go_at_call 73; go_must (refine (rings_walk l HG.out A c HC.out h10 n w1 (Kd.C_below HA.out HB1.out)).mono ?_; rintro e w2 ⟨v2, rows, rfl, hP, hb2⟩; obtain ⟨hr2, hp2, ha2, ho2⟩ := hP; obtain ⟨A2, c2, hv2, _, hC2⟩ := Kd.R_reads hr2; subst hv2; rw [List.map_nil, List.append_nil] at hp2; have HCC := Aside0.mk hC2; have HP2 := Aside0.mk hp2; have HAS := Aside0.mk (ha2 List.Pairwise.nil); have HO2 := Aside0.mk ho2; have HB2 := Aside0.mk hb2; have HLL : Aside0 (rows.length ≤ 100000) := ⟨by have h := hp2.length_eq; rw [List.length_map] at h; have := HAL.out; omega⟩; have HBB : Aside0 (∀ x ∈ rows, (∀ i ∈ x.2, 0 ≤ i ∧ i < 20) ∧ sumI x.2 = setI x.2) := ⟨fun x hx => HBD.out _ (hp2.mem_iff.mp (List.mem_map_of_mem (f := fun x : RowT => x.2) hx))⟩; clear hr2 hp2 ha2 ho2 hb2 hC2))
    | (go_at_call 72; go_must (refine (lg_all rows A2 c2 w.heap.size HLL.out HBB.out rows.length 0 0 [] (.slice none 0 0) w2 (Nat.zero_add _) (by decide) (Nat.le_refl _) (Kd.R_nil _ _ _ _ _) (Nat.le_trans HB1.out.size HB2.out.size) HCC.out HO2.out).mono ?_; rintro e w3 ⟨v3, rfl, hr3, hb3⟩; have HR3 := Aside0.mk hr3; have HB3 := Aside0.mk hb3; clear hr3 hb3)))
  go_ret2
  refine ⟨_, rows, rfl, HP2.out, HAS.out, HR3.out, fun x hx => ?_, below_then (below_then HB1.out HB1.out.size HB2.out) (Nat.le_trans HB1.out.size HB2.out.size) HB3.out⟩
  rcases lg_mem rows.length (Nat.le_refl _) _ _ _ x hx with h | h | h
  · exact (HO2.out x h).below HB3.out
  · cases h
  · cases h
end Go.Proofs.Ytaegldcifhgnmaa.B

/- Apart: the first lists of the sets of ties are the rings' own lists (plain). -/
namespace Go.Proofs.Ytaegldcifhgnmaa.B
open Go.Proofs.Ytaegldcifhgnmaa.A
open Go.RowKit Go.Proofs.YtaegldcifhgnmaaW.PrintWords Go.Proofs.YtaegldcifhgnmaaW.PrintMore

variable {l : List S39}
theorem feL_perm {x y : List Int} (h : x.Perm y) : feL l x = feL l y := by
  induction h with
  | nil => rfl
  | cons a _ ih => rw [feL, feL, ih]
  | swap a b _ => rw [feL, feL, feL, feL]; omega
  | trans _ _ h1 h2 => rw [h1, h2]
theorem rot_perm (x : List Int) (m : Nat) : (rot x m).Perm x := by
  have h := List.perm_append_comm (l₁ := x.drop m) (l₂ := x.take m)
  rw [List.take_append_drop] at h
  exact h
theorem rev_perm (x : List Int) : (rev x).Perm x := by
  have h := (List.reverse_perm (x.drop 1)).append_left (x.take 1)
  rw [List.take_append_drop] at h
  exact h
theorem setI_mem {x y : List Int} (h : ∀ i, i ∈ x ↔ i ∈ y) : setI x = setI y := by
  apply Nat.eq_of_testBit_eq
  intro j
  rw [setI_bit, setI_bit, Bool.eq_iff_iff, List.any_eq_true, List.any_eq_true]
  exact ⟨fun ⟨i, hi, e⟩ => ⟨i, (h i).mp hi, e⟩, fun ⟨i, hi, e⟩ => ⟨i, (h i).mpr hi, e⟩⟩
theorem mem_setI {x y : List Int} (hx : ∀ i ∈ x, 0 ≤ i) (hy : ∀ i ∈ y, 0 ≤ i) (h : setI x = setI y) : ∀ i, i ∈ x ↔ i ∈ y := by
  have key : ∀ x y : List Int, (∀ i ∈ x, 0 ≤ i) → (∀ i ∈ y, 0 ≤ i) → setI x = setI y → ∀ i, i ∈ x → i ∈ y := by
    intro x y hx hy h i hi
    have h1 : (setI x).testBit i.toNat = true := by rw [setI_bit, List.any_eq_true]; exact ⟨i, hi, by simp⟩
    rw [h, setI_bit, List.any_eq_true] at h1
    obtain ⟨j, hj, e⟩ := h1
    have e2 := of_decide_eq_true e
    have := hx i hi
    have := hy j hj
    rw [show i = j by omega]; exact hj
  exact fun i => ⟨key x y hx hy h i, key y x hy hx h.symm i⟩
theorem cmp_head {x y : List Int} (hx : 0 < x.length) (hy : 0 < y.length) (h : nx x 0 < nx y 0) (h2 : cmpL y x ≤ 0) : False := by
  cases x with
  | nil => exact absurd hx (Nat.lt_irrefl _)
  | cons a xt =>
    cases y with
    | nil => exact absurd hy (Nat.lt_irrefl _)
    | cons b yt =>
      have h1 : a < b := h
      have h3 := cmpL_lt h1 xt yt
      have h4 := cmpL_swap (a :: xt) (b :: yt)
      have h5 := cmpL_eq (a :: xt) (b :: yt) (by omega)
      injection h5 with h6
      omega
theorem cmp_second {x y : List Int} (hx : 1 < x.length) (hy : 1 < y.length) (e : nx x 0 = nx y 0) (h : nx x 1 < nx y 1) (h2 : cmpL y x ≤ 0) : False := by
  match x, y, hx, hy with
  | a :: a' :: xt, b :: b' :: yt, _, _ =>
    have e1 : a = b := e
    have h1 : a' < b' := h
    subst e1
    have h3 := cmpL_pre [a] (a' :: xt) (b' :: yt)
    have h4 := cmpL_lt h1 xt yt
    have h5 : cmpL (a :: a' :: xt) (a :: b' :: yt) ≤ 0 := by rw [show cmpL (a :: a' :: xt) (a :: b' :: yt) = cmpL (a' :: xt) (b' :: yt) from h3]; exact h4
    have h6 := cmpL_swap (a :: a' :: xt) (a :: b' :: yt)
    have h7 := cmpL_eq _ _ (show cmpL (a :: a' :: xt) (a :: b' :: yt) = 0 by omega)
    injection h7 with h8 h9
    injection h9 with h10
    omega
/-- A ring has no more ties than there are drovers. -/
theorem cyc_len {n : Nat} (ht : tiesE n l = 0) {x : List Int} {c : Nat → Nat} (h : Cyc l x c) : x.length ≤ n := by
  have hg := tiesE_good ht
  have hlt : ∀ j, j < x.length → c j < n := fun j hj => by
    have hin := h.inr j hj
    unfold inR at hin
    have hb := hasB_iff.mp ((h.ends hg hj).mpr (.inl rfl))
    have h1 := tiesE_parts ht
    have h2 := okT_parts (okTies_parts h1.2.2 (i := (nx x j).toNat) (by omega)).1
    unfold tieA at hb
    omega
  have := nodup_short n ((List.range x.length).map c) (List.pairwise_map.mpr (List.pairwise_lt_range.imp_of_mem fun {a b} ha hb hab e => by
    rw [List.mem_range] at ha hb
    have := h.inj ha hb e
    omega)) (fun v hv => by
    obtain ⟨j, hj, rfl⟩ := List.mem_map.mp hv
    exact hlt j (List.mem_range.mp hj))
  rwa [List.length_map, List.length_range] at this
theorem ringy_pos {x : List Int} (h : Ringy l x) : ∀ i ∈ x, 0 ≤ i := fun i hi => (ringy_in h i hi).1

theorem first_canon {n : Nat} (ht : tiesE n l = 0) {k : Nat} {b : List Int} (h : firstA l (n + 1) k = some b) : OddRing l b ∧ Canon b ∧ setI b = k := by
  have hg := tiesE_good ht
  have hL := firstA_least hg (n + 1) k
  rw [h] at hL
  obtain ⟨⟨hO, hbl, hs⟩, hmin⟩ := hL
  obtain ⟨c, hc⟩ := (ringy_cyc hg hO.1).mp hO.2.1
  have h3 := hc.three
  have turn : ∀ y, (∃ d, Cyc l y d) → y.Perm b → cmpL b y ≤ 0 := fun y hy hp => by
    have hyl := hp.length_eq
    refine hmin y ⟨⟨by omega, (ringy_cyc hg (by omega)).mpr hy, by rw [feL_perm hp]; exact hO.2.2⟩, by omega, ?_⟩
    rw [← hs]
    exact setI_mem fun i => hp.mem_iff
  refine ⟨hO, ⟨fun m hm hml => ?_, ?_⟩, hs⟩
  · rcases Int.lt_trichotomy (nx b 0) (nx b m) with h1 | h1 | h1
    · exact h1
    · have := hc.nodup hg (by omega) hml h1
      omega
    · exfalso
      have hl := rot_len b (Nat.le_of_lt hml)
      refine cmp_head (x := rot b m) (y := b) (by omega) (by omega) ?_ (turn _ ⟨_, hc.rot hml⟩ (rot_perm b m))
      rw [rot_nx b hml (by omega), Nat.add_zero, if_pos hml]
      exact h1
  · rcases Int.lt_trichotomy (nx b 1) (nx b (b.length - 1)) with h1 | h1 | h1
    · exact h1
    · have := hc.nodup hg (by omega) (by omega) h1
      omega
    · exfalso
      have hl := rev_len b
      refine cmp_second (x := rev b) (y := b) (by omega) (by omega) ?_ ?_ (turn _ ⟨_, hc.rev hg⟩ (rev_perm b))
      · rw [rev_nx b (by omega), if_pos rfl]
      · rw [rev_nx b (by omega), if_neg (by decide)]
        exact h1
theorem canon_first {n : Nat} (ht : tiesE n l = 0) {x : List Int} (hO : OddRing l x) (hC : Canon x) : firstA l (n + 1) (setI x) = some x := by
  have hg := tiesE_good ht
  obtain ⟨c, hc⟩ := (ringy_cyc hg hO.1).mp hO.2.1
  have hL := firstA_least hg (n + 1) (setI x)
  have hx : OddRing l x ∧ x.length < n + 1 ∧ setI x = setI x := ⟨hO, by have := cyc_len ht hc; omega, rfl⟩
  cases hf : firstA l (n + 1) (setI x) with
  | none => rw [hf] at hL; exact absurd hx (hL x)
  | some b =>
    obtain ⟨hOb, hCb, hsb⟩ := first_canon ht hf
    obtain ⟨d, hd⟩ := (ringy_cyc hg hOb.1).mp hOb.2.1
    rw [canon_one hg hd hc hCb hC (mem_setI (ringy_pos hOb.2.1) (ringy_pos hO.2.1) hsb)]

/-- The program's sorted lists: which they are, and that each is there once. -/
theorem prog_lists {n : Nat} (ht : tiesE n l = 0) {ks : List Nat} {ys : List (List Int)} (hnd : ks.Nodup) (hk : ∀ k, k ∈ ks ↔ firstA l (n + 1) k ≠ none) (hp : (ys.map some).Perm (ks.map (firstA l (n + 1)))) :
    (∀ x, x ∈ ys ↔ OddRing l x ∧ Canon x) ∧ ys.Nodup := by
  have hmem : ∀ x, x ∈ ys ↔ ∃ k, firstA l (n + 1) k = some x := fun x => by
    constructor
    · intro hx
      have h1 : some x ∈ ys.map some := List.mem_map_of_mem hx
      obtain ⟨k, _, e⟩ := List.mem_map.mp (hp.mem_iff.mp h1)
      exact ⟨k, e⟩
    · rintro ⟨k, e⟩
      have h1 : some x ∈ ks.map (firstA l (n + 1)) := List.mem_map.mpr ⟨k, (hk k).mpr (by rw [e]; simp), e⟩
      obtain ⟨y, hy, e2⟩ := List.mem_map.mp (hp.mem_iff.mpr h1)
      rw [← Option.some.inj e2]; exact hy
  refine ⟨fun x => (hmem x).trans ⟨fun ⟨k, e⟩ => ⟨(first_canon ht e).1, (first_canon ht e).2.1⟩, fun ⟨h1, h2⟩ => ⟨_, canon_first ht h1 h2⟩⟩, ?_⟩
  have h1 : (ks.map (firstA l (n + 1))).Nodup := by
    refine List.pairwise_map.mpr (List.Pairwise.imp_of_mem (fun {a b} ha _ hab e => ?_) hnd)
    obtain ⟨x, hx⟩ := Option.ne_none_iff_exists'.mp ((hk a).mp ha)
    have e1 := (first_canon ht hx).2.2
    rw [e] at hx
    have e2 := (first_canon ht hx).2.2
    exact hab (e1.symm.trans e2)
  have h2 := hp.nodup_iff.mpr h1
  exact (List.pairwise_map.mp h2).imp fun h e => h (by rw [e])
end Go.Proofs.Ytaegldcifhgnmaa.B

/- The specification's rings: which they are (plain). -/
namespace Go.Proofs.Ytaegldcifhgnmaa.B
open Go.Proofs.Ytaegldcifhgnmaa.A
open Go.RowKit Go.Proofs.YtaegldcifhgnmaaW.PrintWords Go.Proofs.YtaegldcifhgnmaaW.PrintMore

variable {l : List S39}
theorem up_mem {α : Type} {f : Nat → List α} {x : α} : ∀ k, x ∈ upF f k ↔ ∃ i, i < k ∧ x ∈ f i
  | 0 => ⟨fun h => (by cases h), fun ⟨_, h, _⟩ => absurd h (Nat.not_lt_zero _)⟩
  | k + 1 => by
    rw [upF, List.mem_append, up_mem k]
    constructor
    · rintro (⟨i, h1, h2⟩ | h)
      · exact ⟨i, by omega, h2⟩
      · exact ⟨k, Nat.lt_succ_self k, h⟩
    · rintro ⟨i, h1, h2⟩
      by_cases e : i = k
      · rw [e] at h2; exact .inr h2
      · exact .inl ⟨i, by omega, h2⟩
theorem up_nodup {α : Type} {f : Nat → List α} : ∀ k, (∀ i, i < k → (f i).Nodup) → (∀ i j, i < j → j < k → ∀ x, x ∈ f i → x ∈ f j → False) → (upF f k).Nodup
  | 0, _, _ => List.nodup_nil
  | k + 1, h1, h2 => by
    rw [upF]
    refine List.nodup_append.mpr ⟨up_nodup k (fun i hi => h1 i (by omega)) (fun i j hij hj => h2 i j hij (by omega)), h1 k (Nat.lt_succ_self k), fun a ha b hb e => ?_⟩
    obtain ⟨i, hi, ha'⟩ := (up_mem k).mp ha
    exact h2 i k hi (Nat.lt_succ_self k) a ha' (by rw [e]; exact hb)
theorem one_mem {now x : List Int} (h : x ∈ oneF l now) : x = now ∧ (Int.tmod (isRingR l now).1 2 == 1) = true ∧ nx now 1 < nx now (now.length - 1) := by
  unfold oneF at h
  split at h
  · rename_i h1
    exact ⟨List.mem_singleton.mp h, h1.1, h1.2⟩
  · cases h
theorem one_nodup {now : List Int} : (oneF l now).Nodup := by
  unfold oneF
  split
  · exact List.nodup_cons.mpr ⟨List.not_mem_nil, List.nodup_nil⟩
  · exact List.nodup_nil
theorem go_mem {rec : List Int → Nat → Nat → List (List Int)} {now x : List Int} {at_ met i : Nat} (h : x ∈ goF l rec now at_ met i) : nx now 0 < (i : Int) ∧ ∃ v, otherN (l.getD i z39) at_ = some v ∧ met.testBit v = false ∧ x ∈ rec (now ++ [(i : Int)]) v (met ||| 2 ^ v) := by
  unfold goF at h
  split at h
  · rename_i h1
    refine ⟨h1, ?_⟩
    split at h
    · cases h
    · rename_i v hv
      split at h
      · cases h
      · rename_i ht
        exact ⟨v, hv, by simpa using ht, h⟩
  · cases h
theorem nx_append {a b : List Int} {k : Nat} (h : k < a.length) : nx (a ++ b) k = nx a k := by
  unfold nx
  simp only [List.getD_eq_getElem?_getD]
  rw [List.getElem?_append_left h]
theorem nx_last {a : List Int} {i : Int} {b : List Int} : nx (a ++ [i] ++ b) a.length = i := by
  rw [nx_append (by rw [List.length_append, List.length_singleton]; omega)]
  unfold nx
  rw [List.getD_eq_getElem?_getD, List.getElem?_append_right (Nat.le_refl _), Nat.sub_self]; rfl
/-- What is found is a ring that goes on from what there is. -/
theorem around_sound : ∀ d now at_ met x, now ≠ [] → x ∈ aroundF l d now at_ met → (∃ js, x = now ++ js ∧ (∀ j ∈ js, nx now 0 < j) ∧ DT l at_ met js) ∧ (isRingR l x).2 = true ∧ x ∈ oneF l x := by
  intro d
  induction d with
  | zero =>
    intro now at_ met x hne h
    rw [aroundF] at h
    split at h
    · rename_i hr
      obtain rfl := (one_mem h).1
      exact ⟨⟨[], by simp, fun j hj => (by cases hj), trivial⟩, hr, h⟩
    · cases h
  | succ d ih =>
    intro now at_ met x hne h
    rw [aroundF] at h
    split at h
    · rename_i hr
      obtain rfl := (one_mem h).1
      exact ⟨⟨[], by simp, fun j hj => (by cases hj), trivial⟩, hr, h⟩
    · obtain ⟨i, hi, h1⟩ := (up_mem _).mp h
      obtain ⟨h2, v, h3, h4, h5⟩ := go_mem h1
      obtain ⟨⟨js, e, h6, h7⟩, h8, h9⟩ := ih _ _ _ x (by simp) h5
      have e0 : nx (now ++ [(i : Int)]) 0 = nx now 0 := nx_append (List.length_pos_iff.mpr hne)
      refine ⟨⟨(i : Int) :: js, by rw [e, List.append_assoc]; rfl, fun j hj => ?_, ⟨by omega, by omega⟩, v, h3, h4, h7⟩, h8, h9⟩
      rcases List.mem_cons.mp hj with e1 | e1
      · rw [e1]; exact h2
      · have := h6 j e1
        rwa [e0] at this
theorem around_nodup : ∀ d now at_ met, now ≠ [] → (aroundF l d now at_ met).Nodup := by
  intro d
  induction d with
  | zero =>
    intro now at_ met _
    rw [aroundF]
    split
    · exact one_nodup
    · exact List.nodup_nil
  | succ d ih =>
    intro now at_ met hne
    rw [aroundF]
    split
    · exact one_nodup
    · refine up_nodup _ (fun i _ => ?_) fun i j hij _ x h1 h2 => ?_
      · unfold goF
        split
        · split
          · exact List.nodup_nil
          · split
            · exact List.nodup_nil
            · exact ih _ _ _ (by simp)
        · exact List.nodup_nil
      · obtain ⟨_, v, _, _, h5⟩ := go_mem h1
        obtain ⟨_, u, _, _, h6⟩ := go_mem h2
        obtain ⟨⟨js, e, _⟩, _⟩ := around_sound _ _ _ _ x (by simp) h5
        obtain ⟨⟨js', e', _⟩, _⟩ := around_sound _ _ _ _ x (by simp) h6
        have a1 : nx x now.length = (i : Int) := by rw [e]; exact nx_last
        have a2 : nx x now.length = (j : Int) := by rw [e']; exact nx_last
        omega

/-! ### all are found -/
theorem take_nx {x : List Int} {k j : Nat} (h : j < k) : nx (x.take k) j = nx x j := by
  unfold nx
  simp only [List.getD_eq_getElem?_getD]
  rw [List.getElem?_take_of_lt h]
theorem take_succ_nx {x : List Int} {k : Nat} (h : k < x.length) : x.take (k + 1) = x.take k ++ [nx x k] := by
  rw [List.take_succ_eq_append_getElem h]
  unfold nx
  rw [List.getD_eq_getElem?_getD, List.getElem?_eq_getElem h]; rfl
/-- A part of a ring's list is no ring. -/
theorem prefix_no (hg : goodT l) {x : List Int} {c : Nat → Nat} (h : Cyc l x c) {k : Nat} (hk : k < x.length) : (isRingR l (x.take k)).2 = false := by
  cases hr : (isRingR l (x.take k)).2 with
  | false => rfl
  | true =>
    exfalso
    have h3 := isRing_three hr
    have hl : (x.take k).length = k := by rw [List.length_take]; omega
    obtain ⟨d, hd⟩ := (ringy_cyc hg h3).mp ((isRing_iff h3).mp hr)
    rw [hl] at h3
    have hx3 := h.three
    have e0 : nx (x.take k) 0 = nx x 0 := take_nx (by omega)
    have ec : d 0 = c 0 ∨ d 0 = c 1 := (h.ends hg (j := 0) (by omega)).mp (by rw [← e0]; exact (hd.ends hg (by omega)).mpr (.inl rfl))
    rcases ec with ec | ec
    · have main : ∀ j, j ≤ k → d j = c j := by
        intro j
        induction j with
        | zero => exact fun _ => ec
        | succ j ih =>
          intro hj
          have g1 := hd.goes j (by omega)
          have g2 := h.goes j (by omega)
          rw [take_nx (show j < k by omega), ih (by omega), g2] at g1
          exact (Option.some.inj g1).symm
      have h4 := main k (Nat.le_refl k)
      have h5 := hd.back
      rw [hl, h4, ec] at h5
      have := h.inj hk (by omega) h5
      omega
    · have g1 := hd.goes 0 (by omega)
      have hi := tieA_good hg (h.inr 0 (by omega))
      rw [e0, ec, other_back hi.1 hi.2.1 (h.goes 0 (by omega))] at g1
      have e1 : c 0 = d 1 := Option.some.inj g1
      have hb : hasB (tieA l (nx x 1)) (c 0) = true := by
        rw [← take_nx (x := x) (show 1 < k by omega), e1]
        exact (hd.ends hg (by omega)).mpr (.inl rfl)
      have := h.at_ hg (by omega) (by omega) hb
      omega
theorem around_all (hg : goodT l) {x : List Int} {c : Nat → Nat} (h : Cyc l x c) (hC : Canon x) (h1 : x ∈ oneF l x) : ∀ m k d met, k + m = x.length → 0 < k → m ≤ d → (∀ v, met.testBit v = true ↔ ∃ j, 0 < j ∧ j ≤ k ∧ v = c j) → x ∈ aroundF l d (x.take k) (c k) met := by
  have hring : (isRingR l x).2 = true := (isRing_iff h.three).mpr ((ringy_cyc hg h.three).mpr ⟨c, h⟩)
  intro m
  induction m with
  | zero =>
    intro k d met hk _ _ _
    have e : x.take k = x := List.take_of_length_le (by omega)
    rw [e]
    cases d with
    | zero => rw [aroundF, if_pos hring]; exact h1
    | succ d => rw [aroundF, if_pos hring]; exact h1
  | succ m ih =>
    intro k d met hk h0 hmd hmet
    obtain ⟨d', rfl⟩ : ∃ d', d = d' + 1 := ⟨d - 1, by omega⟩
    have hno := prefix_no hg h (show k < x.length by omega)
    rw [aroundF, if_neg (by rw [hno]; exact Bool.false_ne_true)]
    have hin := h.inr k (by omega)
    have hin2 := hin
    unfold inR at hin2
    obtain ⟨i, hi⟩ := Int.eq_ofNat_of_zero_le hin2.1
    have hgo := h.goes k (by omega)
    have hti : tieA l (nx x k) = l.getD i z39 := by unfold tieA; rw [hi, Int.toNat_natCast]
    rw [hti] at hgo
    have hfree : met.testBit (c (k + 1)) = false := by
      rw [← Bool.not_eq_true, hmet]
      rintro ⟨j, hj0, hjk, e⟩
      obtain ⟨j', rfl⟩ : ∃ j', j = j' + 1 := ⟨j - 1, by omega⟩
      exact h.apart j' k (by omega) (by omega) e.symm
    refine (up_mem _).mpr ⟨i, by omega, ?_⟩
    unfold goF
    rw [if_pos (by
      have h2 : nx (x.take k) 0 = nx x 0 := take_nx h0
      have h3 := hC.1 k h0 (by omega)
      show nx (x.take k) 0 < (i : Int)
      rw [h2, ← hi]; exact h3), hgo]
    dsimp only
    rw [if_neg (by rw [hfree]; exact Bool.false_ne_true), ← hi, ← take_succ_nx (by omega)]
    refine ih (k + 1) d' _ (by omega) (by omega) (by omega) fun v => ?_
    rw [or_bit, Bool.or_eq_true, hmet, decide_eq_true_iff]
    constructor
    · rintro (⟨j, a1, a2, a3⟩ | e)
      · exact ⟨j, a1, by omega, a3⟩
      · exact ⟨k + 1, by omega, Nat.le_refl _, e⟩
    · rintro ⟨j, a1, a2, a3⟩
      by_cases e : j = k + 1
      · rw [e] at a3; exact .inr a3
      · exact .inl ⟨j, a1, by omega, a3⟩

/-! ### the rings of a list of ties -/
theorem one_odd {x : List Int} (h3 : 3 ≤ x.length) (hr : (isRingR l x).2 = true) : (Int.tmod (isRingR l x).1 2 == 1) = oddB (feL l x) := by
  rw [isRing_fe h3 hr, ask_odd]
  unfold askB
  rw [if_neg (by decide)]
theorem side_mem {i j : Nat} {x : List Int} (h : x ∈ sideF l i j) : ∃ v, v = (if j = 0 then (l.getD i z39).f0.toNat else (l.getD i z39).f1.toNat) ∧ x ∈ aroundF l 8 [(i : Int)] v (2 ^ v) := by
  unfold sideF at h
  by_cases e : j = 0
  · rw [if_pos e] at h; exact ⟨_, by rw [if_pos e], h⟩
  · rw [if_neg e] at h; exact ⟨_, by rw [if_neg e], h⟩
theorem rings_mem {n : Nat} (ht : tiesE n l = 0) (x : List Int) : x ∈ ringsR l ↔ OddRing l x ∧ Canon x := by
  have hg := tiesE_good ht
  unfold ringsR
  rw [up_mem]
  constructor
  · rintro ⟨i, hi, hx⟩
    obtain ⟨j, _, hx2⟩ := (up_mem 2).mp hx
    obtain ⟨v, _, hx3⟩ := side_mem hx2
    obtain ⟨⟨js, e, h6, _⟩, h8, h9⟩ := around_sound _ _ _ _ x (by simp) hx3
    have h3 := isRing_three h8
    obtain ⟨_, ho, hlt⟩ := one_mem h9
    refine ⟨⟨h3, (isRing_iff h3).mp h8, by rw [← one_odd h3 h8]; exact ho⟩, fun k hk hkl => ?_, hlt⟩
    have hx0 : nx x 0 = (i : Int) := by rw [e]; rfl
    have hm := nx_mem hkl
    obtain ⟨k', rfl⟩ : ∃ k', k = k' + 1 := ⟨k - 1, by omega⟩
    have hk2 : nx x (k' + 1) = nx js k' := by rw [e]; rfl
    rw [hx0, hk2]
    exact h6 _ (nx_mem (by rw [e] at hkl; simp at hkl; omega))
  · rintro ⟨hO, hC⟩
    obtain ⟨c, hc⟩ := (ringy_cyc hg hO.1).mp hO.2.1
    have h3 := hc.three
    have hring : (isRingR l x).2 = true := (isRing_iff h3).mpr hO.2.1
    have h1 : x ∈ oneF l x := by
      unfold oneF
      rw [if_pos ⟨by rw [one_odd h3 hring]; exact hO.2.2, hC.2⟩]
      exact List.mem_singleton_self x
    have hin := hc.inr 0 (by omega)
    have hin2 := hin
    unfold inR at hin2
    obtain ⟨i, hi⟩ := Int.eq_ofNat_of_zero_le hin2.1
    have hti : tieA l (nx x 0) = l.getD i z39 := by unfold tieA; rw [hi, Int.toNat_natCast]
    have hlen := cyc_len ht hc
    have hn8 := (tiesE_parts ht).1
    have hfound := around_all hg hc hC h1 (x.length - 1) 1 8 (2 ^ c 1) (by omega) (by omega) (by omega) (fun v => by
      rw [tb_two, beq_iff_eq]
      constructor
      · intro e; exact ⟨1, by omega, Nat.le_refl _, e⟩
      · rintro ⟨j, a1, a2, a3⟩
        rw [show j = 1 by omega] at a3; exact a3)
    have ht1 : x.take 1 = [(i : Int)] := by
      rw [← hi]
      have := take_succ_nx (x := x) (k := 0) (by omega)
      rw [List.take_zero, List.nil_append] at this
      exact this
    rw [ht1] at hfound
    refine ⟨i, by omega, (up_mem 2).mpr ?_⟩
    have hb := hasB_iff.mp ((hc.ends hg (j := 0) (by omega)).mpr (.inr rfl))
    rw [hti, Nat.zero_add] at hb
    rcases hb with e | e
    · refine ⟨0, by decide, ?_⟩
      unfold sideF
      rw [if_pos rfl, show (l.getD i z39).f0.toNat = c 1 by omega]
      exact hfound
    · refine ⟨1, by decide, ?_⟩
      unfold sideF
      rw [if_neg (by decide), show (l.getD i z39).f1.toNat = c 1 by omega]
      exact hfound
theorem rings_nodup {n : Nat} (ht : tiesE n l = 0) : (ringsR l).Nodup := by
  have hg := tiesE_good ht
  unfold ringsR
  have hsn : ∀ i j, (sideF l i j).Nodup := fun i j => by unfold sideF; split <;> exact around_nodup _ _ _ _ (by simp)
  refine up_nodup _ (fun i hi => up_nodup 2 (fun j _ => hsn i j) fun j j' hjj hj' x h1 h2 => ?_) fun i i' hii hi' x h1 h2 => ?_
  · obtain ⟨v, hv, h3⟩ := side_mem h1
    obtain ⟨u, hu, h4⟩ := side_mem h2
    rw [if_pos (by omega)] at hv
    rw [if_neg (by omega)] at hu
    obtain ⟨⟨js, e, h6, h7⟩, h8, _⟩ := around_sound _ _ _ _ x (by simp) h3
    obtain ⟨⟨js', e', _, h7'⟩, _, _⟩ := around_sound _ _ _ _ x (by simp) h4
    have hjs : js = js' := by
      rw [e] at e'
      exact List.append_cancel_left e'
    subst hjs
    have hx3 := isRing_three h8
    cases js with
    | nil => rw [e] at hx3; simp at hx3
    | cons j1 jt =>
      obtain ⟨hin, w1, o1, _⟩ := h7
      obtain ⟨_, w2, o2, _⟩ := h7'
      have hgi := hg _ (getD_mem z39 hi)
      have hg1 := tieA_good hg hin
      have p1 := hasB_iff.mp (other_parts hg1.1 hg1.2.1 o1).1
      have p2 := hasB_iff.mp (other_parts hg1.1 hg1.2.1 o2).1
      have hlt := h6 j1 (List.mem_cons_self)
      have hlt2 : (i : Int) < j1 := hlt
      unfold inR at hin
      have hp := (okTies_parts (tiesE_parts ht).2.2 (i := j1.toNat) (by omega)).2 i (by omega)
      apply hp
      unfold tieA at p1 p2 hg1
      unfold pairT
      rw [Prod.mk.injEq]
      omega
  · obtain ⟨j, _, h3⟩ := (up_mem 2).mp h1
    obtain ⟨j', _, h4⟩ := (up_mem 2).mp h2
    obtain ⟨v, _, h5⟩ := side_mem h3
    obtain ⟨u, _, h6⟩ := side_mem h4
    obtain ⟨⟨js, e, _⟩, _⟩ := around_sound _ _ _ _ x (by simp) h5
    obtain ⟨⟨js', e', _⟩, _⟩ := around_sound _ _ _ _ x (by simp) h6
    rw [e] at e'
    have : (i : Int) = (i' : Int) := by
      have h9 := congrArg (fun L => nx L 0) e'
      exact h9
    omega
end Go.Proofs.Ytaegldcifhgnmaa.B

/- The law package's ties, as the kit's print writes it. -/
namespace Go.Proofs.Ytaegldcifhgnmaa.B
open Go.Proofs.Ytaegldcifhgnmaa.A
open Go.RowKit Go.Proofs.YtaegldcifhgnmaaW.PrintWords Go.Proofs.YtaegldcifhgnmaaW.PrintLast Go.Proofs.YtaegldcifhgnmaaW.PrintMore
section
attribute [local go_sem] max2_int min2_int max_two min_two max_three min_three max_four min_four   -- for this text's walks alone
set_option linter.unusedVariables false
set_option linter.unusedSimpArgs false
theorem eqA39 (d : Nat) (w : World) (x0 y0 : Int) (x1 y1 : Int) (x2 y2 : Bool) :
    (Op.equalIn (d + 2) 39 (.agg #[.int .i64 x0, .int .i64 x1, .bool x2]) (.agg #[.int .i64 y0, .int .i64 y1, .bool y2])).run Try.prog w = .ok (x0 == y0 && (x1 == y1 && (x2 == y2))) w := by
  refine eqA_of Try.underlying39 (by kernel_rfl) ?_
  refine eqf_cons (by rfl) (by go_simp; rfl) (by go_simp; rfl) (by go_simp) ?_
  refine eqf_cons (by rfl) (by go_simp; rfl) (by go_simp; rfl) (by go_simp) ?_
  exact eqf_last (by rfl) (by go_simp; rfl) (by go_simp; rfl) (by go_simp)
attribute [local go_sem high] eqA39
/-! ### drovewaylaw09_ties: function 23 -/
def drovewaylaw09_ties.l0 : Nat → List (S39) → List (S39) → Int → Option (Bool)
  | 0, _, _, _ => none
  | k + 1, x0, x1, x5 => if x5 < (x0.length : Int) then (if 0 ≤ x5 then (if x5 < (x1.length : Int) then (if (!(((rd_T39 x0 x5).f0) == ((rd_T39 x1 x5).f0)) || (!(((rd_T39 x0 x5).f1) == ((rd_T39 x1 x5).f1)) || (!(((rd_T39 x0 x5).f2) == ((rd_T39 x1 x5).f2))))) = true then (some false) else (drovewaylaw09_ties.l0 k x0 x1 (wrap64 (x5 + 1)))) else (none)) else (none)) else (some true)
def drovewaylaw09_ties.f (k : Nat) (l0 : List (S39)) (l1 : List (S39)) : Option (Bool) := if (l0.length : Int) = (l1.length : Int) then (drovewaylaw09_ties.l0 k l0 l1 0) else (some false)
theorem drovewaylaw09_ties.mono_l : ∀ k, (∀ y0 y1 y2, LeO (drovewaylaw09_ties.l0 k y0 y1 y2) (drovewaylaw09_ties.l0 (k + 1) y0 y1 y2))
  | 0 => fun _ _ _ r h => by simp [drovewaylaw09_ties.l0] at h
  | k + 1 => by
    have ih0 := drovewaylaw09_ties.mono_l k
    · intro y0 y1 y2
      unfold drovewaylaw09_ties.l0
      repeat' first
      | (with_reducible exact ih0 _ _ _)
      | (with_reducible exact LeO.refl _)
      | (with_reducible exact LeO.none _)
      | (with_reducible refine LeO.ite ?_ ?_)
      | (with_reducible refine LeO.bind ?_ (fun _ => ?_))
      | exact ih0 _ _ _
      | exact LeO.none _
      | refine LeO.ite ?_ ?_
      | refine LeO.bind ?_ (fun _ => ?_)
theorem drovewaylaw09_ties.mono : ∀ a0 a1 k, LeO (drovewaylaw09_ties.f k a0 a1) (drovewaylaw09_ties.f (k + 1) a0 a1) := by
  intro a0 a1 k
  have ih0 := drovewaylaw09_ties.mono_l k
  unfold drovewaylaw09_ties.f
  repeat' first
      | (with_reducible exact ih0 _ _ _)
      | (with_reducible exact LeO.refl _)
      | (with_reducible exact LeO.none _)
      | (with_reducible refine LeO.ite ?_ ?_)
      | (with_reducible refine LeO.bind ?_ (fun _ => ?_))
      | exact ih0 _ _ _
      | exact LeO.none _
      | refine LeO.ite ?_ ?_
      | refine LeO.bind ?_ (fun _ => ?_)
set_option maxHeartbeats 8000000 in
set_option maxRecDepth 100000 in
theorem drovewaylaw09_ties.calls (k : Nat) (A0 : Option Addr) (c0 : Nat) (l0 : List (S39)) (A1 : Option Addr) (c1 : Nat) (l1 : List (S39)) (r : Bool) (w : World) (hr0 : Kd.C k39 w A0 l0.length l0) (hc0 : l0.length ≤ c0) (hr1 : Kd.C k39 w A1 l1.length l1) (hc1 : l1.length ≤ c1) (h : drovewaylaw09_ties.f k l0 l1 = some r) :
    Calls Try.prog 23 #[.slice A0 l0.length c0, .slice A1 l1.length c1] w fun e w' => e = .returned (.bool r) ∧ Drawn0 w w' := by
  have hu39 := Try.underlying39
  have HR0 := Aside0.mk hr0
  have HC0 := Aside0.mk hc0
  clear hr0 hc0
  have HR1 := Aside0.mk hr1
  have HC1 := Aside0.mk hc1
  clear hr1 hc1
  have H : (if (l0.length : Int) = (l1.length : Int) then (drovewaylaw09_ties.l0 k l0 l1 0) else (some false)) = some r := h
  clear h
  by_cases c3 : (l0.length : Int) = (l1.length : Int)
  · rw [if_pos c3] at H
    have c3b0 : ((l0.length : Int) == (l1.length : Int)) = true := beq_iff_eq.mpr c3
    have c3b1 : ((l0.length : Int) != (l1.length : Int)) = false := bne_eq_false_iff_eq.mpr c3
    have c3b2 : (l0.length == l1.length) = true := by first | simpa using c3 | (simp at c3 ⊢; omega)
    clear c3
    have H' := Aside0.mk H
    clear H
    go_enter Try.func23, Try.ntmps23
    go_wp2
    repeat (go_quiet (fail); try go_wp2)
    go_loopg [5] k (fun kq v5 w' => ∃ (x5_1 : Int), v5 = .int .i64 x5_1 ∧ Aside0 (drovewaylaw09_ties.l0 kq l0 l1 x5_1 = some r) ∧ Aside0 (kq ≤ k) ∧ Drawn0 w w')
    case atStart => exact ⟨(0), (by first | rfl | (simp; done) | (simp [*]; done)), H', ⟨Nat.le_refl _⟩, by repeat (first | exact Drawn0.refl _ | apply Drawn0.step)⟩
    case round =>
      clear H'
      try clear c1
      try clear c2
      try clear p2
      try clear c3
      try clear c3b0
      try clear c3b1
      try clear c3b2
      obtain ⟨x5_1, rfl, HA, HK1, ⟨m1, rfl⟩⟩ := hrel
      cases gk with
      | zero => exact absurd HA.out (by simp [drovewaylaw09_ties.l0])
      | succ k1 =>
        have H := HA.out
        clear HA
        simp only [drovewaylaw09_ties.l0] at H
        by_cases c4 : x5_1 < (l0.length : Int)
        · rw [if_pos c4] at H
          have c4b0 : decide (x5_1 < (l0.length : Int)) = true := decide_eq_true c4
          clear c4
          by_cases c5 : 0 ≤ x5_1
          · rw [if_pos c5] at H
            have c5b0 : decide (0 ≤ x5_1) = true := decide_eq_true c5
            clear c5
            by_cases c6 : x5_1 < (l1.length : Int)
            · rw [if_pos c6] at H
              have c6b0 : decide (x5_1 < (l1.length : Int)) = true := decide_eq_true c6
              clear c6
              by_cases c7 : (!(((rd_T39 l0 x5_1).f0) == ((rd_T39 l1 x5_1).f0)) || (!(((rd_T39 l0 x5_1).f1) == ((rd_T39 l1 x5_1).f1)) || (!(((rd_T39 l0 x5_1).f2) == ((rd_T39 l1 x5_1).f2))))) = true
              · rw [if_pos c7] at H
                have c7b0 : (!(((rd_T39 l0 x5_1).f0) == ((rd_T39 l1 x5_1).f0)) || (!(((rd_T39 l0 x5_1).f1) == ((rd_T39 l1 x5_1).f1)) || (!(((rd_T39 l0 x5_1).f2) == ((rd_T39 l1 x5_1).f2))))) = true := c7
                clear c7
                obtain rfl := Option.some.inj H
                have p204 : 0 ≤ (x5_1 : Int) := of_decide_eq_true (by first | (with_reducible assumption) | assumption)
                have q204 : x5_1 < (l0.length : Int) := of_decide_eq_true (by first | (with_reducible assumption) | assumption)
                obtain ⟨ad204, e204, hx204_0, hx204_1, hx204_2⟩ := at_T39 HR0.out x5_1 p204 q204
                cases e204
                replace p204 := eq_true p204
                replace q204 := eq_true q204
                have p205 : 0 ≤ (x5_1 : Int) := of_decide_eq_true (by first | (with_reducible assumption) | assumption)
                have q205 : x5_1 < (l1.length : Int) := of_decide_eq_true (by first | (with_reducible assumption) | assumption)
                obtain ⟨ad205, e205, hx205_0, hx205_1, hx205_2⟩ := at_T39 HR1.out x5_1 p205 q205
                cases e205
                replace p205 := eq_true p205
                replace q205 := eq_true q205
                go_wp2
                repeat (go_quiet (fail); try go_wp2)
                go_ret
                exact ⟨by first | rfl | (simp; done) | (simp [*]; done), by repeat (first | exact Drawn0.refl _ | apply Drawn0.step)⟩
              · rw [if_neg c7] at H
                have c7b0 : (!(((rd_T39 l0 x5_1).f0) == ((rd_T39 l1 x5_1).f0)) || (!(((rd_T39 l0 x5_1).f1) == ((rd_T39 l1 x5_1).f1)) || (!(((rd_T39 l0 x5_1).f2) == ((rd_T39 l1 x5_1).f2))))) = false := by simpa using c7
                clear c7
                have H' := Aside0.mk H
                clear H
                have p204 : 0 ≤ (x5_1 : Int) := of_decide_eq_true (by first | (with_reducible assumption) | assumption)
                have q204 : x5_1 < (l0.length : Int) := of_decide_eq_true (by first | (with_reducible assumption) | assumption)
                obtain ⟨ad204, e204, hx204_0, hx204_1, hx204_2⟩ := at_T39 HR0.out x5_1 p204 q204
                cases e204
                replace p204 := eq_true p204
                replace q204 := eq_true q204
                have p205 : 0 ≤ (x5_1 : Int) := of_decide_eq_true (by first | (with_reducible assumption) | assumption)
                have q205 : x5_1 < (l1.length : Int) := of_decide_eq_true (by first | (with_reducible assumption) | assumption)
                obtain ⟨ad205, e205, hx205_0, hx205_1, hx205_2⟩ := at_T39 HR1.out x5_1 p205 q205
                cases e205
                replace p205 := eq_true p205
                replace q205 := eq_true q205
                go_wp2
                repeat (go_quiet (fail); try go_wp2)
                go_roundg k1
                case measure => have := HK1.out; omega
                case rel => exact ⟨(wrap64 (x5_1 + 1)), (by first | rfl | (simp; done) | (simp [*]; done)), H', ⟨by have := HK1.out; omega⟩, by repeat (first | exact Drawn0.refl _ | apply Drawn0.step)⟩
            · rw [if_neg c6] at H
              exact absurd H (by simp)
          · rw [if_neg c5] at H
            exact absurd H (by simp)
        · rw [if_neg c4] at H
          have c4b0 : decide (x5_1 < (l0.length : Int)) = false := decide_eq_false c4
          clear c4
          obtain rfl := Option.some.inj H
          go_wp2
          repeat (go_quiet (fail); try go_wp2)
          go_ret
          exact ⟨by first | rfl | (simp; done) | (simp [*]; done), by repeat (first | exact Drawn0.refl _ | apply Drawn0.step)⟩
  · rw [if_neg c3] at H
    have c3b0 : ((l0.length : Int) == (l1.length : Int)) = false := beq_eq_false_iff_ne.mpr c3
    have c3b1 : ((l0.length : Int) != (l1.length : Int)) = true := bne_iff_ne.mpr c3
    have c3b2 : (l0.length == l1.length) = false := by first | simpa using c3 | (simp at c3 ⊢; omega)
    obtain rfl := Option.some.inj H
    go_enter Try.func23, Try.ntmps23
    go_wp2
    repeat (go_quiet (fail); try go_wp2)
    go_ret
    exact ⟨by first | rfl | (simp; done) | (simp [*]; done), by repeat (first | exact Drawn0.refl _ | apply Drawn0.step)⟩

-- NOT PRINTED: function 3 (drovewaylaw09_FeudsSides)

end
end Go.Proofs.Ytaegldcifhgnmaa.B

/- Ties that are the same (plain). -/
namespace Go.Proofs.Ytaegldcifhgnmaa.B
open Go.Proofs.Ytaegldcifhgnmaa.A
open Go.RowKit Go.Proofs.YtaegldcifhgnmaaW.PrintWords Go.Proofs.YtaegldcifhgnmaaW.PrintMore
theorem tiesL_l0 (l : List S39) (hl : l.length ≤ 140737488351232) : ∀ n i, l.length - i = n → i ≤ l.length → Ev (fun k => drovewaylaw09_ties.l0 k l l (i : Int)) true := by
  intro n
  induction n with
  | zero =>
    intro i hn hi
    refine Ev.step (f := fun _ => some true) (fun k => ?_) (Ev.now _)
    rw [drovewaylaw09_ties.l0, if_neg (by omega)]
  | succ n ih =>
    intro i hn hi
    refine Ev.step (fun k => ?_) (ih (i + 1) (by omega) (by omega))
    rw [drovewaylaw09_ties.l0, if_pos (by omega), if_pos (by omega), if_pos (by omega), if_neg (by simp), wrapS (show i < l.length by omega) hl]
theorem tiesL_ev {l l' : List S39} (hl : l.length ≤ 140737488351232) (h : l = l') : Ev (fun k => drovewaylaw09_ties.f k l l') true := by
  subst h
  refine Ev.congr (fun k => ?_) (tiesL_l0 l hl _ 0 rfl (Nat.zero_le _))
  unfold drovewaylaw09_ties.f
  rw [if_pos rfl]
  rfl
end Go.Proofs.Ytaegldcifhgnmaa.B

/- The law package's small functions, as they are called. -/
namespace Go.Proofs.Ytaegldcifhgnmaa.B
open Go.Proofs.Ytaegldcifhgnmaa.A
open Go.RowKit Go.Proofs.YtaegldcifhgnmaaW.PrintWords Go.Proofs.YtaegldcifhgnmaaW.PrintMore

theorem few_c (A : Option Addr) (c : Nat) (l : List S39) (A2 : Option Addr) (c2 : Nat) (r : List Int) (w : World) (hr : Kd.C k39 w A l.length l) (hc : l.length ≤ c) (hr2 : Kd.C (Kd.int .i64) w A2 r.length r) (hc2 : r.length ≤ c2) (b : Bool) (hb : decide (l.length ≤ 60 ∧ r.length ≤ 60) = b) :
    Calls Try.prog 16 #[.slice A l.length c, .slice A2 r.length c2] w fun e w' => e = .returned (.bool b) ∧ Below w.heap.size w w' :=
  (drovewaylaw09_few.calls A c l A2 c2 r b w hr hc hr2 hc2 (by rw [few_eq, hb])).mono fun _ _ ⟨p, q⟩ => ⟨p, q.below⟩
theorem Ties_c (n : Int) (A : Option Addr) (c : Nat) (l : List S39) (w : World) (hr : Kd.C k39 w A l.length l) (hc : l.length ≤ c) (hl : l.length ≤ 1000) (E : Int) (hE : tiesE n l = E) :
    Calls Try.prog 24 #[.int .i64 n, .slice A l.length c] w fun e w' => e = .returned (.int .i64 E) ∧ Below w.heap.size w w' := by
  obtain ⟨k, hk⟩ := (Ties_ev (n := n) hl).rounds
  rw [hE] at hk
  exact (drovewayref09_Ties.calls k n A c l E w hr hc hk).mono fun _ _ ⟨p, q⟩ => ⟨p, q.below⟩
theorem sameT_c (A : Option Addr) (c : Nat) (A2 : Option Addr) (c2 : Nat) (l : List S39) (w : World) (hr : Kd.C k39 w A l.length l) (hc : l.length ≤ c) (hr2 : Kd.C k39 w A2 l.length l) (hc2 : l.length ≤ c2) (hl : l.length ≤ 1000) :
    Calls Try.prog 23 #[.slice A l.length c, .slice A2 l.length c2] w fun e w' => e = .returned (.bool true) ∧ Below w.heap.size w w' := by
  obtain ⟨k, hk⟩ := (tiesL_ev (l := l) (l' := l) (by omega) rfl).rounds
  exact (drovewaylaw09_ties.calls k A c l A2 c2 l true w hr hc hr2 hc2 hk).mono fun _ _ ⟨p, q⟩ => ⟨p, q.below⟩
end Go.Proofs.Ytaegldcifhgnmaa.B

/- FeudsApart: the law, walked. (Printed by gen_x7.py.) -/
namespace Go.Proofs.Ytaegldcifhgnmaa.B
open Go.Proofs.Ytaegldcifhgnmaa.A
open Go.RowKit Go.Proofs.YtaegldcifhgnmaaW.PrintWords Go.Proofs.YtaegldcifhgnmaaW.PrintMore
set_option linter.unusedSimpArgs false

/-- Rows and an error. -/
def ApPost (Z : List (List Int)) (E : Int) (w : World) (e : Ending) (w' : World) : Prop :=
  ∃ (v : Value) (P : List RowT), e = .returned (.tuple #[v, .int .i64 E]) ∧ kR.R 28 w' w.heap.size (fun _ => True) v P ∧ (P.map fun x => x.2) = Z ∧ (∀ x ∈ P, RowOk w' x) ∧ Below w.heap.size w w'
theorem same_rows {w : World} {g1 c1 g2 c2 : Nat} {a b : List Int} (h1 : RowOk w ((g1, c1), a)) (h2 : RowOk w ((g2, c2), b)) (hab : a = b) :
    Calls Try.prog 22 #[.slice (some ⟨g1, 0, none⟩) a.length c1, .slice (some ⟨g2, 0, none⟩) b.length c2] w fun e w' => e = .returned (.bool true) ∧ Below w.heap.size w w' := by
  have hl := h1.2.1
  dsimp only at hl
  obtain ⟨k, hk⟩ := (same_ev (l := a) (l' := b) (by omega) hab).rounds
  exact (drovewaylaw09_same.calls k _ c1 a _ c2 b true w h1.2.2.2.2 h1.2.2.1 h2.2.2.2.2 h2.2.2.1 hk).mono fun _ _ ⟨p, q⟩ => ⟨p, q.below⟩

set_option maxRecDepth 100000 in
set_option maxHeartbeats 800000 in
theorem apart_many (n : Int) (A : Option Addr) (c : Nat) (l : List S39) (w : World) (hr : Kd.C k39 w A l.length l) (hc : l.length ≤ c) (hl : ¬ l.length ≤ 60) :
    Calls Try.prog 14 #[.int .i64 n, .slice A l.length c] w fun e w' => e = .returned (.bool true) ∧ Below w.heap.size w w' := by
  have HF := Aside0.mk (few_c A c l none 0 [] w hr hc ⟨rfl, Nat.zero_le _, fun h => absurd h (Nat.lt_irrefl _)⟩ (Nat.le_refl _) false (decide_eq_false fun h => hl h.1))
  clear hr hc hl
  go_enter Try.func14, Try.ntmps14
  go_wp2_with (first
    | (go_at_call 16; go_must (refine HF.out.mono ?_; rintro e w1 ⟨rfl, hb⟩; have HB1 := Aside0.mk hb; clear hb))
    | (go_at_call 17; go_must (refine (alive_calls _).mono ?_; rintro e w15 ⟨rfl, hb⟩; have HB2 := Aside0.mk (below_then HB1.out HB1.out.size hb); clear hb)))
  go_ret
  exact ⟨rfl, HB2.out⟩

set_option maxRecDepth 100000 in
set_option maxHeartbeats 3200000 in
theorem apart_law (n : Int) (A : Option Addr) (c : Nat) (l : List S39) (w : World) (hr : Kd.C k39 w A l.length l) (hc : l.length ≤ c) (hl : l.length ≤ 60) (Z : List (List Int)) (E : Int) (hz : Z.length ≤ 100000)
    (H1 : ∀ w, Kd.C k39 w A l.length l → Calls Try.prog 43 #[.int .i64 n, .slice A l.length c] w (ApPost Z E w)) (H2 : ∀ w, Kd.C k39 w A l.length l → Calls Try.prog 44 #[.int .i64 n, .slice A l.length c] w (ApPost Z E w)) :
    Calls Try.prog 14 #[.int .i64 n, .slice A l.length c] w fun e w' => e = .returned (.bool true) ∧ Below w.heap.size w w' := by
  have HF := Aside0.mk (few_c A c l none 0 [] w hr hc ⟨rfl, Nat.zero_le _, fun h => absurd h (Nat.lt_irrefl _)⟩ (Nat.le_refl _) true (decide_eq_true ⟨hl, Nat.zero_le _⟩))
  have HA := Aside0.mk hr
  have G1 := Aside0.mk H1
  have G2 := Aside0.mk H2
  clear hr hc H1 H2
  go_enter Try.func14, Try.ntmps14
  go_wp2_with (first
    | (go_at_call 16; go_must (refine HF.out.mono ?_; rintro e w1 ⟨rfl, hb⟩; have HB1 := Aside0.mk hb; clear hb))
    | (go_at_call 43; go_must (refine (G1.out w1 (Kd.C_below HA.out HB1.out)).mono ?_; rintro e w2 ⟨v2, P, rfl, hr2, hp2, ho2, hb2⟩; obtain ⟨A2, c2, hv2, _, _⟩ := Kd.R_reads hr2; subst hv2; have HR2 := Aside0.mk hr2; have HP2 := Aside0.mk hp2; have HO2 := Aside0.mk ho2; have HB2 := Aside0.mk (below_then HB1.out HB1.out.size hb2); clear hr2 hp2 ho2 hb2))
    | (go_at_call 44; go_must (refine (G2.out w2 (Kd.C_below HA.out HB2.out)).mono ?_; rintro e w3 ⟨v3, Q, rfl, hr3, hp3, ho3, hb3⟩; have hPQ : P.length = Q.length := by { have h1 := congrArg List.length HP2.out; have h2 := congrArg List.length hp3; rw [List.length_map] at h1 h2; omega }; obtain ⟨A3, c3, hv3, _, hC3⟩ := Kd.R_reads hr3; rw [← hPQ] at hv3; subst hv3; have hPZ : P.length ≤ 100000 := by { have h1 := congrArg List.length HP2.out; rw [List.length_map] at h1; omega }; have HC3 := Aside0.mk hC3; have HP3 := Aside0.mk hp3; have HO3 := Aside0.mk ho3; have HC2 := Aside0.mk (Kd.R_reads' (Kd.R_below HR2.out hb3)).2.2; have HO22 : Aside0 (∀ x ∈ P, RowOk w3 x) := ⟨fun x hx => (HO2.out x hx).below hb3⟩; have HPQ := Aside0.mk hPQ; have HB3 := Aside0.mk (below_then HB2.out HB2.out.size hb3); clear hr3 hp3 ho3 hb3 hC3 hPQ)))
  go_loopg [9] P.length (fun gg v9 wr => ∃ i : Nat, i ≤ P.length ∧ P.length - i ≤ gg ∧ v9 = .int .i64 i ∧ Aside0 (Below w3.heap.size w3 wr))
  case atStart => exact ⟨0, Nat.zero_le _, by omega, rfl, ⟨Below.refl _ _⟩⟩
  case round =>
    obtain ⟨i, hi, hgg, rfl, HBr⟩ := hrel
    by_cases hil : i < P.length
    · have hilz : (i : Int) < (P.length : Int) := by omega
      have hiq : i < Q.length := by rw [← HPQ.out]; exact hil
      obtain ⟨ad, had, hx0⟩ := ReadsOf.at_ (Kd.reads_of_C (d := default) (Kd.C_below HC2.out HBr.out)) (i : Int) (by omega) (by omega)
      subst had
      obtain ⟨ad3, had3, hx3⟩ := ReadsOf.at_ (Kd.reads_of_C (d := default) (Kd.C_below HC3.out HBr.out)) (i : Int) (by omega) (by omega)
      subst had3
      rw [Int.toNat_natCast] at hx0 hx3
      have hrd : rdOf default P (i : Int) = P.getD i default := by simp [rdOf]
      have hrq : rdOf default Q (i : Int) = Q.getD i default := by simp [rdOf]
      rw [hrd] at hx0
      rw [hrq] at hx3
      have hm1 : P.getD i default ∈ P := getD_mem default hil
      have hm2 : Q.getD i default ∈ Q := getD_mem default hiq
      have hab : (P.getD i default).2 = (Q.getD i default).2 := by
        have h1 : (P.map fun x => x.2) = Q.map fun x => x.2 := HP2.out.trans HP3.out.symm
        have h2 := congrArg (fun L => L[i]?) h1
        (try dsimp only at h2)
        rw [List.getElem?_map, List.getElem?_map, List.getElem?_eq_getElem hil, List.getElem?_eq_getElem hiq] at h2
        rw [List.getD_eq_getElem?_getD, List.getD_eq_getElem?_getD, List.getElem?_eq_getElem hil, List.getElem?_eq_getElem hiq]
        exact Option.some.inj h2
      have hk1 := (HO22.out _ hm1).below HBr.out
      have hk2 := (HO3.out _ hm2).below HBr.out
      generalize P.getD i default = y at hx0 hab hk1
      generalize Q.getD i default = z at hx3 hab hk2
      obtain ⟨⟨g, rc⟩, b⟩ := y
      obtain ⟨⟨g2, rc2⟩, b2⟩ := z
      have hx : wr.cell? (ad.add i) = some (.slice (some ⟨g, 0, none⟩) b.length rc) := hx0
      have hxq : wr.cell? (ad3.add i) = some (.slice (some ⟨g2, 0, none⟩) b2.length rc2) := hx3
      have HAB : Aside0 (b = b2) := ⟨hab⟩
      have HK1 := Aside0.mk hk1
      have HK2 := Aside0.mk hk2
      have HX := Aside0.mk hx
      have HXQ := Aside0.mk hxq
      have hl1 : (ad.add i).block < wr.heap.size := World.block_lt_of_cell? wr _ hx
      have hl2 : (ad3.add i).block < wr.heap.size := World.block_lt_of_cell? wr _ hxq
      obtain ⟨SS, hSS⟩ : ∃ SS : World → Prop, SS = (fun w' => w'.cell? (ad.add i) = some (.slice (some ⟨g, 0, none⟩) b.length rc) ∧ w'.cell? (ad3.add i) = some (.slice (some ⟨g2, 0, none⟩) b2.length rc2)) := ⟨_, rfl⟩
      have HSS : Aside0 (∀ w', Below wr.heap.size wr w' → SS w') := ⟨fun w' h => by rw [hSS]; exact ⟨(World.cell?_of_block (h.block _ hl1)).trans HX.out, (World.cell?_of_block (h.block _ hl2)).trans HXQ.out⟩⟩
      have HSO : Aside0 (∀ w', SS w' → w'.cell? (ad.add i) = some (.slice (some ⟨g, 0, none⟩) b.length rc) ∧ w'.cell? (ad3.add i) = some (.slice (some ⟨g2, 0, none⟩) b2.length rc2)) := ⟨fun w' h => by rw [hSS] at h; exact h⟩
      clear hSS hx0 hx3 hab hk1 hk2 hm1 hm2 hrd hrq hx hxq
      go_wp2
      refine wp_region_noPanic ?_
      refine wp_region_held_drew (S := SS) (by kernel_rfl) (HSS.out _ (below_drew (Below.refl _ _))) (fun hHeld => ?_)
      refine H_on 0 42 ?vs0 rfl rfl (by kernel_rfl) (by kernel_rfl) (by kernel_rfl) (by rfl) ?hs0 hHeld ?rs0
      case hs0 => (intro w hSw; obtain ⟨s0, s1⟩ := HSO.out w hSw; go_simp <;> with_reducible rfl)
      simp only [Act.put, List.setIfInBounds_toArray, List.set_cons_zero, List.set_cons_succ]
      refine H_on 1 43 ?vs1 rfl rfl (by kernel_rfl) (by kernel_rfl) (by kernel_rfl) (by rfl) ?hs1 hHeld ?rs1
      case hs1 => (intro w hSw; obtain ⟨s0, s1⟩ := HSO.out w hSw; go_simp <;> with_reducible rfl)
      simp only [Act.put, List.setIfInBounds_toArray, List.set_cons_zero, List.set_cons_succ]
      refine H_on 2 44 ?vs2 rfl rfl (by kernel_rfl) (by kernel_rfl) (by kernel_rfl) (by rfl) ?hs2 hHeld ?rs2
      case hs2 => (intro w hSw; obtain ⟨s0, s1⟩ := HSO.out w hSw; go_simp <;> with_reducible rfl)
      simp only [Act.put, List.setIfInBounds_toArray, List.set_cons_zero, List.set_cons_succ]
      refine H_on 3 45 ?vs3 rfl rfl (by kernel_rfl) (by kernel_rfl) (by kernel_rfl) (by rfl) ?hs3 hHeld ?rs3
      case hs3 => (intro w hSw; obtain ⟨s0, s1⟩ := HSO.out w hSw; go_simp <;> with_reducible rfl)
      simp only [Act.put, List.setIfInBounds_toArray, List.set_cons_zero, List.set_cons_succ]
      refine H_on 4 46 ?vs4 rfl rfl (by kernel_rfl) (by kernel_rfl) (by kernel_rfl) (by rfl) ?hs4 hHeld ?rs4
      case hs4 => (intro w hSw; obtain ⟨s0, s1⟩ := HSO.out w hSw; go_simp <;> with_reducible rfl)
      simp only [Act.put, List.setIfInBounds_toArray, List.set_cons_zero, List.set_cons_succ]
      refine H_on 5 47 ?vs5 rfl rfl (by kernel_rfl) (by kernel_rfl) (by kernel_rfl) (by rfl) ?hs5 hHeld ?rs5
      case hs5 => (intro w hSw; obtain ⟨s0, s1⟩ := HSO.out w hSw; go_simp <;> with_reducible rfl)
      simp only [Act.put, List.setIfInBounds_toArray, List.set_cons_zero, List.set_cons_succ]
      refine H_on 6 48 ?vs6 rfl rfl (by kernel_rfl) (by kernel_rfl) (by kernel_rfl) (by rfl) ?hs6 hHeld ?rs6
      case hs6 => (intro w hSw; obtain ⟨s0, s1⟩ := HSO.out w hSw; go_simp <;> with_reducible rfl)
      simp only [Act.put, List.setIfInBounds_toArray, List.set_cons_zero, List.set_cons_succ]
      refine H_on 7 49 ?vs7 rfl rfl (by kernel_rfl) (by kernel_rfl) (by kernel_rfl) (by rfl) ?hs7 hHeld ?rs7
      case hs7 => (intro w hSw; obtain ⟨s0, s1⟩ := HSO.out w hSw; go_simp <;> with_reducible rfl)
      simp only [Act.put, List.setIfInBounds_toArray, List.set_cons_zero, List.set_cons_succ]
      refine wpAnyH_ready (rs := [8]) (by kernel_rfl) (by simp) ?_
      refine AllReadyH.cons rfl (fun K hK => ?_) AllReadyH.nil
      go_simp
      refine (same_rows (HK1.out.below (below_drew (Below.refl _ _))) (HK2.out.below (below_drew (Below.refl _ _))) HAB.out).mono ?_
      rintro e w5 ⟨rfl, hb5⟩
      have HB5 : Aside0 (Below wr.heap.size wr w5) := ⟨below_then (below_drew (Below.refl _ _)) (Nat.le_refl _) hb5⟩
      clear hb5
      go_wp2_with fail
      refine hK.out _ _ (HSS.out _ HB5.out) (fun hHeld => ?_)
      clear hK K
      try simp only [Act.put, List.setIfInBounds_toArray, List.set_cons_zero, List.set_cons_succ]
      refine H_on 9 51 ?vs9 rfl rfl (by kernel_rfl) (by kernel_rfl) (by kernel_rfl) (by rfl) ?hs9 hHeld ?rs9
      case hs9 => (intro w hSw; obtain ⟨s0, s1⟩ := HSO.out w hSw; go_simp <;> with_reducible rfl)
      simp only [Act.put, List.setIfInBounds_toArray, List.set_cons_zero, List.set_cons_succ]
      refine wpAnyH_done (by kernel_rfl) ?_ _
      refine NoPanic.normal ?_
      clear hHeld HSS HSO
      go_wp2
      go_roundg (P.length - (i + 1))
      case measure => omega
      case rel => exact ⟨i + 1, by omega, by omega, by go_num, ⟨below_then HBr.out HBr.out.size HB5.out⟩⟩
    · have hilz : ¬ (i : Int) < (P.length : Int) := by omega
      go_wp2_with (go_at_call 17; go_must (refine (alive_calls _).mono ?_; rintro e w15 ⟨rfl, hb⟩; have HB9 := Aside0.mk (below_then HBr.out HBr.out.size hb); clear hb))
      go_ret
      exact ⟨rfl, below_then HB3.out HB3.out.size HB9.out⟩
end Go.Proofs.Ytaegldcifhgnmaa.B

/- Apart, walked. -/
namespace Go.Proofs.Ytaegldcifhgnmaa.A
open Go.RowKit Go.Proofs.YtaegldcifhgnmaaW.PrintWords Go.Proofs.YtaegldcifhgnmaaW.PrintMore
open Go.Proofs.Ytaegldcifhgnmaa.B (firstA firstA_low firstA_step firstA_small firstA_bd)

/-- What Apart returns of a good list: the sorted first lists' longest search. -/
def ApartPost (l : List S39) (n : Nat) (w : World) (e : Ending) (w' : World) : Prop :=
  ∃ (v : Value) (ks : List Nat) (ys : List RowT), e = .returned (.tuple #[v, .int .i64 0]) ∧ ks.Nodup ∧ (∀ k, k ∈ ks ↔ firstA l (n + 1) k ≠ none) ∧ (ys.map fun x => some x.2).Perm (ks.map (firstA l (n + 1))) ∧ ys.Pairwise (fun x y => cmpL x.2 y.2 ≤ 0) ∧
    kR.R 28 w' w.heap.size (fun _ => True) v (lpB keyR ys ys.length 0 [] []) ∧ (∀ x ∈ lpB keyR ys ys.length 0 [] [], RowOk w' x) ∧ Below w.heap.size w w'

set_option maxRecDepth 100000 in
set_option maxHeartbeats 800000 in
theorem apart_err (n : Int) (A : Option Addr) (c : Nat) (l : List S39) (w : World) (hr : Kd.C k39 w A l.length l) (E : Int) (h : tiesE n l = E) (h0 : E ≠ 0) :
    Calls Try.prog 43 #[.int .i64 n, .slice A l.length c] w fun e w' => e = .returned (.tuple #[.slice none 0 0, .int .i64 E]) ∧ Below w.heap.size w w' := by
  have HR := Aside0.mk hr
  have HE := Aside0.mk h
  have hg := errne h0
  have H0 := Aside0.mk h0
  clear hr h h0
  go_enter Try.func43, Try.ntmps43
  go_wp2_with (go_at_call 46; refine (read_err HR.out HE.out H0.out).mono ?_; rintro e w' ⟨rfl, hb'⟩; have HB := Aside0.mk hb'; clear hb')
  go_ret2
  exact ⟨rfl, below_alloc HB.out _⟩
set_option maxRecDepth 100000 in
set_option maxHeartbeats 800000 in
theorem apart_full (n : Int) (A : Option Addr) (c : Nat) (l : List S39) (w : World) (hr : Kd.C k39 w A l.length l) (h : tiesE n l = 0) (h0 : 10 < l.length) :
    Calls Try.prog 43 #[.int .i64 n, .slice A l.length c] w fun e w' => e = .returned (.tuple #[.slice none 0 0, .int .i64 8]) ∧ Below w.heap.size w w' := by
  have HR := Aside0.mk hr
  have HE := Aside0.mk h
  have hg : (10 : Int) < (l.length : Int) := by omega
  clear hr h h0
  go_enter Try.func43, Try.ntmps43
  go_wp2_with (go_at_call 46; refine (read_good HR.out HE.out).mono ?_; rintro e w' ⟨rfl, hb'⟩; have HB := Aside0.mk hb'; clear hb')
  go_ret2
  exact ⟨rfl, below_alloc HB.out _⟩

set_option maxRecDepth 100000 in
set_option maxHeartbeats 3200000 in
theorem apart_good (n : Nat) (A : Option Addr) (c : Nat) (l : List S39) (w : World) (hr : Kd.C k39 w A l.length l) (h : tiesE n l = 0) (h10 : l.length ≤ 10) :
    Calls Try.prog 43 #[.int .i64 n, .slice A l.length c] w (ApartPost l n w) := by
  have hn : n ≤ 8 := by have := (tiesE_parts h).1; omega
  have HR := Aside0.mk hr
  have HSM := Aside0.mk (tiesE_small h)
  have HE := Aside0.mk h
  have HG := Aside0.mk (tiesE_good h)
  have HCA : Aside0 (∀ ad, A = some ad → 0 < l.length → ad.block < w.heap.size) := ⟨fun ad e hp => by
    obtain ⟨ad', e', hx, _⟩ := at_T39 hr 0 (by omega) (by omega)
    rw [e] at e'
    cases e'
    have := World.block_lt_of_cell? w _ hx
    rwa [add_block] at this⟩
  have hg : ¬ (10 : Int) < (l.length : Int) := by omega
  clear hr h
  have hmm := @run_makeMap Try.prog
  go_enter Try.func43, Try.ntmps43
  go_wp2_with (go_at_call 46; refine (read_good HR.out HE.out).mono ?_; rintro e w1 ⟨rfl, hb1⟩; have HB1 := Aside0.mk (below_alloc hb1 (.cells #[.int .i64 (n : Int), .slice A l.length c] 59)); have HB0 := Aside0.mk hb1; clear hb1)
  have HB2 : Aside0 (Below w1.heap.size w1 ((w1.alloc (.cells #[.int .i64 (n : Int), .slice A l.length c] 59)).alloc (.map #[] 0))) := ⟨below_alloc (below_alloc (Below.refl _ _) _) _⟩
  have HFS : Aside0 (FirstIs (w1.heap.size + 1 + 1) (w1.heap.size + 1) (fun _ => none) (fun j => j = w1.heap.size + 1 ∨ j = w1.heap.size + 1 + 1) (((w1.alloc (.cells #[.int .i64 (n : Int), .slice A l.length c] 59)).alloc (.map #[] 0)).alloc (.cells #[.map (some (w1.heap.size + 1))] 76))) := ⟨by
    have := first_start (w1.alloc (.cells #[.int .i64 (n : Int), .slice A l.length c] 59))
    rw [show (w1.alloc (.cells #[.int .i64 (n : Int), .slice A l.length c] 59)).heap.size = w1.heap.size + 1 by simp] at this
    exact this⟩
  have HX0 : Aside0 ((((w1.alloc (.cells #[.int .i64 (n : Int), .slice A l.length c] 59)).alloc (.map #[] 0)).alloc (.cells #[.map (some (w1.heap.size + 1))] 76)).heap[w1.heap.size]? = some (.cells #[.int .i64 (n : Int), .slice A l.length c] 59 (0, 0))) := ⟨blk_alloc (blk_alloc (heap_alloc_new _ _) _) _⟩
  have HBL : Aside0 (Below w1.heap.size w1 (((w1.alloc (.cells #[.int .i64 (n : Int), .slice A l.length c] 59)).alloc (.map #[] 0)).alloc (.cells #[.map (some (w1.heap.size + 1))] 76))) := ⟨below_alloc HB2.out _⟩
  have HWG : Aside0 (w.heap.size ≤ w1.heap.size) := ⟨HB0.out.size⟩
  clear HB1 HB2 hmm
  generalize hh1 : w1.heap.size = h1 at HFS HX0 HBL HWG ⊢
  have HH1 := Aside0.mk hh1
  clear hh1
  go_loopg [9] (n + 1) (fun gg v9 wr => ∃ (k : Nat) (S : Nat → Prop), 3 ≤ k ∧ k ≤ max 3 (n + 1) ∧ n + 1 - k ≤ gg ∧ v9 = .int .i64 k ∧ Aside0 (wr.heap[h1]? = some (.cells #[.int .i64 (n : Int), .slice A l.length c] 59 (0, 0)) ∧ Below h1 w1 wr ∧ (∀ j, S j → h1 < j)) ∧ Aside0 (FirstIs (h1 + 1 + 1) (h1 + 1) (firstA l k) S wr))
  case atStart => exact ⟨3, fun j => j = h1 + 1 ∨ j = h1 + 1 + 1, Nat.le_refl _, by omega, by omega, rfl, ⟨HX0.out, HBL.out, fun j hj => by omega⟩, ⟨by rw [firstA_low l 3 (Nat.le_refl _)]; exact HFS.out⟩⟩
  case round =>
    clear HX0 HBL HFS
    obtain ⟨k, S, hk3, hkm, hgg, rfl, HI, HF⟩ := hrel
    obtain ⟨n0, n1, _, _⟩ := cells2 HI.out.1
    by_cases hlt : k ≤ n
    · have hltz : (k : Int) ≤ (n : Int) := by omega
      have hcall := Aside0.mk (rings_calls (n := n) (c := c) (A := A) (first_visitor (cb := h1 + 1 + 1) (mb := h1 + 1)) (k - 1) (by omega) (show k = k - 1 + 1 by omega) HSM.out (by omega) (firstA l k) wr HF.out (Kd.C_below (Kd.C_below HR.out HB0.out) (by rw [HH1.out]; exact HI.out.2.1)) (fun ad e hp hs => by have h1 := HCA.out ad e hp; have h2 := HI.out.2.2 _ hs; have h3 := HWG.out; omega))
      have hst := firstA_step l hk3
      rw [← hst] at hcall
      clear hst
      go_wp2_with (go_at_call 65; go_must (refine hcall.out.mono ?_; rintro e w2 ⟨rfl, S', k1, k2, k3⟩; have K1 := Aside0.mk k1; have K2 := Aside0.mk k2; have K3 := Aside0.mk k3; clear k1 k2 k3))
      have hg1 : h1 < wr.heap.size := blk_lt HI.out.1
      go_roundg (n + 1 - (k + 1))
      case measure => omega
      case rel => exact ⟨k + 1, S', by omega, by omega, by omega, by go_num, ⟨(K3.out.block h1 hg1 (fun hs => by have := HI.out.2.2 _ hs; omega)).trans HI.out.1, HI.out.2.1.trans (K3.out.below (B := h1) (by omega) (fun j hj => by have := HI.out.2.2 _ hj; omega)), fun j hj => by rcases K2.out j hj with h | h; exact HI.out.2.2 _ h; omega⟩, K1⟩
    · have hltz : ¬ (k : Int) ≤ (n : Int) := by omega
      have hke : firstA l k = firstA l (n + 1) := by
        by_cases h : k = n + 1
        · rw [h]
        · rw [firstA_low l k (by omega), firstA_low l (n + 1) (by omega)]
      rw [hke] at HF
      obtain ⟨F, hF⟩ : ∃ F, firstA l (n + 1) = F := ⟨_, rfl⟩
      rw [hF] at HF
      have HFE := Aside0.mk hF
      obtain ⟨D, d0, d1, d2⟩ := HF.out.map
      have D0 := Aside0.mk d0
      have D1 := Aside0.mk d1
      have D2 := Aside0.mk d2
      obtain ⟨a0, _⟩ := cells1 (blk_alloc HF.out.cell (.cells #[.slice none 0 0] 53))
      have HSM2 : Aside0 (∀ k, F k ≠ none → k < 1024) := ⟨fun k hk => by rw [← hF] at hk; have h2 := firstA_small HG.out hk; have h3 : 2 ^ l.length ≤ 2 ^ 10 := Nat.pow_le_pow_right (by decide) h10; omega⟩
      have HBD2 : Aside0 (∀ k b, F k = some b → ∀ i ∈ b, 0 ≤ i ∧ i < 60) := ⟨fun k b hb i hi => by rw [← hF] at hb; have := firstA_bd HG.out hb i hi; omega⟩
      have HIB := Aside0.mk HI.out.2.1
      have hg1 : h1 < wr.heap.size := blk_lt HI.out.1
      clear d0 d1 d2 hF hke n0 n1 HI
      go_wp2_with (at_range; go_must (refine wpList_range_own _ rfl _ 76 rfl 3 28 keyed3 Try.underlying76 RV (h1 + 1) (Maps.size D) D rfl (D0.out.alloc _) ?_; intro w5 hrg5 hg5 hs5; have HC5 := Aside0.mk (coll_start HF.out D2.out hrg5 hg5); clear hrg5 hg5 hs5))
      obtain ⟨W0, rfl⟩ : ∃ W0 : World, W0 = wr := ⟨_, rfl⟩
      clear a0
      go_loopg [12] (Maps.size D) (fun gg _ wq => ∃ (left : Lit → Bool) (cnt : Nat) (v : Value) (ks : List Nat) (xs : List RowT), cnt ≤ gg ∧ Aside0 (CollSt W0 (h1 + 1) (Maps.size D) D F left cnt v ks xs wq))
      case atStart => exact ⟨_, _, _, _, _, Nat.le_refl _, HC5⟩
      case round =>
        clear HC5
        obtain ⟨left, cnt, v, ks, xs, hcg, HC⟩ := hrel
        obtain ⟨A5, c5, hv5, _, _⟩ := Kd.R_reads HC.out.rx
        subst hv5
        have hx9 := HC.out.few HSM2.out
        go_wp2_with (at_next; refine wpList_next_ranges _ rfl _ rfl 3 keyed3 RV (Value.int .i64) (fun v => v) (fun key kl hk => by obtain ⟨x, rfl, _⟩ := Maps.keyOf_int_inv Try.underlying3 hk; exact ⟨x, rfl⟩) (fun v y _ => ⟨v, rfl⟩) (h1 + 1) (W0.heap.size + 1) (Maps.size D) D left cnt rfl HC.out.rg ?_ ?_)
        · intro hc0 hl0
          obtain ⟨l2, lf2⟩ := cells1 HC.out.cx
          have HLL := Aside0.mk hl0
          have eg := enters70
          clear hl0
          go_wp2_with (first
            | (go_at_call 69; go_must (refine (sortR_any HC.out.rx HC.out.ok (by omega)).mono ?_; rintro e w6 ⟨rfl, ys, hperm, hpw, hr6, hg6⟩; obtain ⟨hc6, hok6, hb6⟩ := HC.out.sorted hperm hg6; have HON := Aside0.mk (on_start hc6 hr6 hok6); have HPE := Aside0.mk hperm; have HPW := Aside0.mk hpw; have HB6 := Aside0.mk hb6; have HY : Aside0 (ys.length ≤ 100000) := ⟨by rw [hperm.length_eq]; omega⟩; have HYB : Aside0 (∀ x ∈ ys, ∀ i ∈ x.2, 0 ≤ i ∧ i < 60) := ⟨fun x hx => by obtain ⟨k2, _, h2⟩ := HC.out.mem (hperm.mem_iff.1 hx); exact HBD2.out k2 _ h2⟩; clear hperm hpw hr6 hg6 hc6 hok6 hb6 l2 lf2))
            | (go_at_fn 70; go_must (refine (on70_all HY.out HYB.out ys.length 0 0 [] [] _ _ _ HON.out (Nat.zero_add _) (by decide) (Nat.le_refl _)).mono ?_; rintro e w8 ⟨rfl, vn8, vb8, h8⟩; obtain ⟨l8, _⟩ := cells1 h8.cb; have H8 := Aside0.mk h8; obtain ⟨A8, c8, hv8, _, _⟩ := Kd.R_reads h8.rb; subst hv8; clear h8)))
          go_ret2
          have hsz : w.heap.size ≤ W0.heap.size := Nat.le_trans HB0.out.size HIB.out.size
          refine ⟨_, ks, ys, rfl, HC.out.nd, by rw [HFE.out]; exact HC.out.fin HLL.out, ?_, HPW.out, Kd.R_lower H8.out.rb (by omega), fun x hx => H8.out.ok x (H8.out.bs x hx), ?_⟩
          · rw [HFE.out, HC.out.me]
            exact HPE.out.map _
          · have hw0 : Below w.heap.size w W0 := HB0.out.trans (HIB.out.mono (by rw [← HH1.out]; exact HB0.out.size))
            have h6 : Below w.heap.size W0 w6 := HB6.out.mono hsz
            have h7 : Below w.heap.size w6 (((w6.alloc (.cells #[.slice none 0 0] 53)).alloc (.cells #[.slice none 0 0] 53)).alloc (.cells #[onV70 (w6.heap.size + 1) w6.heap.size W0.heap.size (w6.heap.size + 1 + 1)] 83)) := (below_alloc (below_alloc (below_alloc (Below.refl w6.heap.size w6) _) _) _).mono (Nat.le_trans hsz HB6.out.size)
            exact ((hw0.trans h6).trans h7).trans (H8.out.bl.mono (by omega))
        · intro x cv kl yd yp w2 cnt2 hkey hlk hv hat hrg2 hlt hg2 hs2 hen
          obtain ⟨k', z, rfl, hfk, hcv, hok⟩ := new_entry (y := (yd, yp)) D1.out D2.out (HC.out.lh _ hlk) hv hat
          obtain ⟨hb1, hc1, hr1, hok1, hbig⟩ := HC.out.came hg2 hrg2
          obtain ⟨⟨zg, zc⟩, zb⟩ := z
          have hcv' : cv = .slice (some ⟨zg, 0, none⟩) zb.length zc := hcv
          subst hcv'
          try dsimp only at hen
          obtain ⟨l2, lf2⟩ := cells1 hc1
          have HR2 := Aside0.mk hr1
          have HC1 := Aside0.mk hc1
          have HFK : Aside0 (F k' = some zb) := ⟨hfk⟩
          have HOK := Aside0.mk hok
          have HLK := Aside0.mk hlk
          have HG2 := Aside0.mk hg2
          have HRG := Aside0.mk hrg2
          have HBB := Aside0.mk hb1
          clear hkey hlk hv hat hrg2 hg2 hs2 hcv hfk hok hb1 hc1 hr1 hok1
          go_wp2_with (at_builtin; go_must (refine Kd.R_append kR (w0 := w2) (W0.heap.size + 1) rfl (.tmp 46) (.tmp 48) 53 28 (.slice none 0 0) 24 rfl Try.underlying53 info28 rfl (by decide) (by decide) (.slice A5 xs.length c5) xs ((zg, zc), zb) [encR ((zg, zc), zb)] (fun _ => True) (fun _ => False) rfl rfl rfl (fun _ hk => hk.elim) (fun _ _ => trivial) HR2.out (Below.refl _ _) (by omega) (by omega) ?_; intro v4 w4 ho _ hg4 hat4; obtain ⟨l4, lf4⟩ := cells1 ((hg4.block W0.heap.size (by omega) (fun e => by have := Kd.R_base HR2.out _ e.symm; omega)).trans HC1.out); have HC4 := Aside0.mk (HC.out.put HLK.out (y := ((zg, zc), zb)) HFK.out HOK.out HG2.out HRG.out hg4 ho); obtain ⟨A4, c4, hv4, _, _⟩ := Kd.R_reads ho; rw [show (xs ++ [((zg, zc), zb)]).length = xs.length + 1 from by simp] at hv4; subst hv4; clear ho hg4 hat4 l2 lf2))
          go_roundg cnt2
          case measure => omega
          case rel => exact ⟨_, _, _, _, _, Nat.le_refl _, HC4⟩
end Go.Proofs.Ytaegldcifhgnmaa.A

/- FeudsApart: both lists are one; the law. -/
namespace Go.Proofs.Ytaegldcifhgnmaa.B
open Go.Proofs.Ytaegldcifhgnmaa.A
open Go.RowKit Go.Proofs.YtaegldcifhgnmaaW.PrintWords Go.Proofs.YtaegldcifhgnmaaW.PrintMore

variable {l : List S39}
/-- The odd rings' lists, ascending. -/
def ascR (l : List S39) : List (List Int) := (ringsR l).mergeSort fun a b => decide (cmpL a b ≤ 0)
theorem asc_perm (l : List S39) : (ascR l).Perm (ringsR l) := List.mergeSort_perm _ _
theorem asc_pair (l : List S39) : (ascR l).Pairwise fun a b => cmpL a b ≤ 0 := by
  have h := List.pairwise_mergeSort (le := fun a b : List Int => decide (cmpL a b ≤ 0)) (fun a b c h1 h2 => decide_eq_true (cmpL_trans a b c (of_decide_eq_true h1) (of_decide_eq_true h2))) (fun a b => by
    rw [Bool.or_eq_true, decide_eq_true_iff, decide_eq_true_iff]
    have := cmpL_swap a b
    omega) (ringsR l)
  exact h.imp fun h => of_decide_eq_true h
theorem asc_one {M : List (List Int)} (hp : M.Perm (ringsR l)) (hs : M.Pairwise fun a b => cmpL a b ≤ 0) : M = ascR l :=
  List.Perm.eq_of_pairwise (le := fun a b => cmpL a b ≤ 0) (fun a b _ _ h1 h2 => by
    have := cmpL_swap a b
    exact cmpL_eq a b (by omega)) hs (asc_pair l) (hp.trans (asc_perm l).symm)
theorem prog_one {n : Nat} (ht : tiesE n l = 0) {ks : List Nat} {ys : List RowT} (hnd : ks.Nodup) (hk : ∀ k, k ∈ ks ↔ firstA l (n + 1) k ≠ none) (hp : (ys.map fun x => some x.2).Perm (ks.map (firstA l (n + 1)))) (hs : ys.Pairwise fun x y => cmpL x.2 y.2 ≤ 0) : (ys.map fun x => x.2) = ascR l := by
  have hp2 : ((ys.map fun x => x.2).map some).Perm (ks.map (firstA l (n + 1))) := by rw [List.map_map]; exact hp
  obtain ⟨h1, h2⟩ := prog_lists ht hnd hk hp2
  refine asc_one ?_ (List.pairwise_map.mpr hs)
  exact (List.perm_ext_iff_of_nodup h2 (rings_nodup ht)).mpr fun x => (h1 x).trans (rings_mem ht x).symm

/-! ### the search, on the lists alone -/
theorem getD_map2 (xs : List RowT) (k : Nat) : (xs.map fun x => x.2).getD k default = (xs.getD k default).2 := by
  simp only [List.getD_eq_getElem?_getD, List.getElem?_map]
  cases xs[k]? <;> rfl
theorem disj_key (used : Nat) (xs : List RowT) (k : Nat) : disjB used (keyR (xs.getD k default)) = disjB used ((xs.map fun x => x.2).getD k default) := by rw [getD_map2]; rfl
theorem upd_map (a b : List RowT) : (updL a b).map (fun x => x.2) = updL (a.map fun x => x.2) (b.map fun x => x.2) := by
  unfold updL
  rw [List.length_map, List.length_map]
  split <;> rfl
theorem lg_map (all : List RowT) : ∀ d used now best, (lgB keyR all d used now best).map (fun x => x.2) = lgB (fun x => x) (all.map fun x => x.2) d used (now.map fun x => x.2) (best.map fun x => x.2)
  | 0, _, _, _ => rfl
  | d + 1, used, now, best => by
    rw [lgB, lgB, List.length_map, ← disj_key, lg_map all d]
    congr 1
    split
    · rw [upd_map, lg_map all d, List.map_append, List.map_singleton, getD_map2]; rfl
    · rfl
theorem lg_len {α : Type} [Inhabited α] (key : α → List Int) (all : List α) (N : Nat) : ∀ d used now best, best.length ≤ N → now.length + d ≤ N → (lgB key all d used now best).length ≤ N
  | 0, _, _, _, h, _ => h
  | d + 1, used, now, best, h, h2 => by
    rw [lgB]
    refine lg_len key all N d _ _ _ ?_ (by omega)
    split
    · unfold updL
      split
      · exact lg_len key all N d _ _ _ (by rw [List.length_append, List.length_singleton]; omega) (by rw [List.length_append, List.length_singleton]; omega)
      · exact h
    · exact h
/-- What Apart gives. -/
def apartF (l : List S39) : List (List Int) := lgB (fun x => x) (ascR l) (ascR l).length 0 [] []
theorem apart_one {rows : List RowT} (h : (rows.map fun x => x.2) = ascR l) : (lgB keyR rows rows.length 0 [] []).map (fun x => x.2) = apartF l := by
  have hl : rows.length = (ascR l).length := by rw [← h, List.length_map]
  rw [lg_map, h, hl]; rfl
theorem rings_few {n : Nat} (ht : tiesE n l = 0) (h10 : l.length ≤ 10) : (ringsR l).length ≤ 1024 := by
  have hg := tiesE_good ht
  have h := nodup_short 1024 ((ringsR l).map setI) (List.pairwise_map.mpr (List.Pairwise.imp_of_mem (fun {a b} ha hb hab e => by
    obtain ⟨oa, ca⟩ := (rings_mem ht a).mp ha
    obtain ⟨ob, cb⟩ := (rings_mem ht b).mp hb
    obtain ⟨c, hc⟩ := (ringy_cyc hg oa.1).mp oa.2.1
    obtain ⟨d, hd⟩ := (ringy_cyc hg ob.1).mp ob.2.1
    exact hab (canon_one hg hc hd ca cb (mem_setI (ringy_pos oa.2.1) (ringy_pos ob.2.1) e))) (rings_nodup ht))) (fun k hk => by
    obtain ⟨x, hx, rfl⟩ := List.mem_map.mp hk
    obtain ⟨ox, _⟩ := (rings_mem ht x).mp hx
    have h1 : setI x < 2 ^ l.length := setI_lt fun i hi => by have := ringy_in ox.2.1 i hi; unfold inR at this; omega
    have h3 : 2 ^ l.length ≤ 2 ^ 10 := Nat.pow_le_pow_right (by decide) h10
    omega)
  rwa [List.length_map] at h
theorem sum_set {x : List Int} (hb : ∀ i ∈ x, 0 ≤ i ∧ i < 20) (hn : ∀ i j, i < x.length → j < x.length → nx x i = nx x j → i = j) : ∀ k, k ≤ x.length → sumI (x.take k) = setI (x.take k)
  | 0, _ => by rw [List.take_zero]; rfl
  | k + 1, hk => by
    obtain ⟨a, ha⟩ := Int.eq_ofNat_of_zero_le (hb _ (nx_mem hk)).1
    have ha20 := (hb _ (nx_mem hk)).2
    rw [take_succ_nx hk, sumI_snoc, setI_snoc, sum_set hb hn k (by omega), ha, Int.toNat_natCast]
    have h1 : setI (x.take k) < 2 ^ 20 := setI_lt (m := 20) fun i hi => by have := hb i (List.mem_of_mem_take hi); omega
    refine or_add (Nat.lt_trans h1 (by decide)) (by omega) ?_
    rw [← Bool.not_eq_true, setI_bit, List.any_eq_true]
    rintro ⟨i, hi, e⟩
    have e1 := of_decide_eq_true e
    obtain ⟨j, hj, e2⟩ := mem_nx hi
    rw [List.length_take] at hj
    rw [take_nx (by omega)] at e2
    have h0 := (hb i (List.mem_of_mem_take hi)).1
    have := hn j k (by omega) hk (by rw [e2]; omega)
    omega
theorem rings_sum {n : Nat} (ht : tiesE n l = 0) (h10 : l.length ≤ 10) : ∀ x ∈ ringsR l, (∀ i ∈ x, 0 ≤ i ∧ i < 20) ∧ sumI x = setI x := fun x hx => by
  have hg := tiesE_good ht
  obtain ⟨ox, _⟩ := (rings_mem ht x).mp hx
  obtain ⟨c, hc⟩ := (ringy_cyc hg ox.1).mp ox.2.1
  have h1 : ∀ i ∈ x, 0 ≤ i ∧ i < 20 := fun i hi => by have := ringy_in ox.2.1 i hi; unfold inR at this; omega
  refine ⟨h1, ?_⟩
  have := sum_set h1 (fun i j hi hj e => hc.nodup hg hi hj e) x.length (Nat.le_refl _)
  rwa [List.take_length] at this

theorem apart_any (n : Int) (A : Option Addr) (c : Nat) (l : List S39) (w : World) (hr : Kd.C k39 w A l.length l) (hc : l.length ≤ c) :
    Calls Try.prog 14 #[.int .i64 n, .slice A l.length c] w fun e w' => e = .returned (.bool true) ∧ Below w.heap.size w w' := by
  by_cases hl : l.length ≤ 60
  · by_cases h0 : tiesE n l = 0
    · by_cases h10 : l.length ≤ 10
      · have h1 := tiesE_parts h0
        obtain ⟨m, rfl⟩ : ∃ m : Nat, n = m := ⟨n.toNat, by omega⟩
        have hfew := rings_few h0 h10
        have hal : (ascR l).length ≤ 1024 := by rw [(asc_perm l).length_eq]; exact hfew
        refine apart_law m A c l w hr hc hl (apartF l) 0 (lg_len _ _ 100000 _ _ _ _ (Nat.zero_le _) (by rw [List.length_nil]; omega)) (fun w hr => (apart_good m A c l w hr h0 h10).mono ?_) (fun w hr => (rapart_good m A c l w hr hc h0 h10 (by omega) (rings_sum h0 h10)).mono ?_)
        · rintro e w' ⟨v, ks, ys, rfl, hnd, hk, hp, hs, hR, hok, hb⟩
          have he : lpB keyR ys ys.length 0 [] [] = lgB keyR ys ys.length 0 [] [] := lp_is_lg keyR ys ys.length 0 []
          rw [he] at hR hok
          exact ⟨v, _, rfl, hR, apart_one (prog_one h0 hnd hk hp hs), hok, hb⟩
        · rintro e w' ⟨v, rows, rfl, hp, ha, hR, hok, hb⟩
          exact ⟨v, _, rfl, hR, apart_one (asc_one hp (List.pairwise_map.mpr ha)), hok, hb⟩
      · refine apart_law n A c l w hr hc hl [] 8 (Nat.zero_le _) (fun w hr => (apart_full n A c l w hr h0 (by omega)).mono ?_) (fun w hr => (rapart_full n A c l w hr hc (by omega) h0 (by omega)).mono ?_)
        · rintro e w' ⟨rfl, hb⟩
          exact ⟨_, [], rfl, Kd.R_nil _ _ _ _ _, rfl, fun _ h => (by cases h), hb⟩
        · rintro e w' ⟨rfl, hb⟩
          exact ⟨_, [], rfl, Kd.R_nil _ _ _ _ _, rfl, fun _ h => (by cases h), hb⟩
    · refine apart_law n A c l w hr hc hl [] (tiesE n l) (Nat.zero_le _) (fun w hr => (apart_err n A c l w hr _ rfl h0).mono ?_) (fun w hr => (rapart_err n A c l w hr hc (by omega) _ rfl h0).mono ?_)
      · rintro e w' ⟨rfl, hb⟩
        exact ⟨_, [], rfl, Kd.R_nil _ _ _ _ _, rfl, fun _ h => (by cases h), hb⟩
      · rintro e w' ⟨rfl, hb⟩
        exact ⟨_, [], rfl, Kd.R_nil _ _ _ _ _, rfl, fun _ h => (by cases h), hb⟩
  · exact apart_many n A c l w hr hc hl
end Go.Proofs.Ytaegldcifhgnmaa.B

/- An argument that is a slice of ties, opened to a row of cells. -/
namespace Go.Proofs.Ytaegldcifhgnmaa.A
open Go.ChangeShapes Go.WideShapes Go.Deep
open Go.RowKit Go.Proofs.YtaegldcifhgnmaaW.PrintWords

theorem list_of {α : Type} {P : Nat → α → Prop} : ∀ n, (∀ i, i < n → ∃ x, P i x) → ∃ l : List α, l.length = n ∧ ∀ (i : Nat) (x : α), l[i]? = some x → P i x := by
  intro n
  induction n with
  | zero => exact fun _ => ⟨[], rfl, fun i x h => by simp at h⟩
  | succ n ih =>
    intro h
    obtain ⟨l, hl, hp⟩ := ih (fun i hi => h i (by omega))
    obtain ⟨x, hx⟩ := h n (by omega)
    refine ⟨l ++ [x], by simp [hl], fun i y hy => ?_⟩
    by_cases hi : i < l.length
    · rw [List.getElem?_append_left hi] at hy
      exact hp i y hy
    · have e : i = n := by
        have := (List.getElem?_eq_some_iff.1 hy).1
        rw [List.length_append, List.length_singleton] at this
        omega
      subst e
      have : x = y := by simpa [← hl] using hy
      subst this
      exact hx

set_option maxRecDepth 100000 in
theorem open_ties {H : Type} {enc : TypeId × Value → H} {W : World} {a : Option Addr} {len cap : Nat} {d : DataW H} {p : List MemPlace} (h : DataW.Trod enc Try.prog W 0 (fun _ => true) true 22 (.slice a len cap) d p) :
    ∃ ps : List S39, ps.length = len ∧ len ≤ cap ∧ cap ≤ maxLen ∧ Kd.C k39 W a len ps := by
  obtain ⟨fuel, hf⟩ := h
  rcases open_slice Try.underlying22 hf with ⟨hcs, _⟩ | ⟨x, l, c, m, n, D, Pl, hcs, _, hl, hm, hmm, _, hi⟩
  · simp [Value.cells] at hcs
    obtain ⟨rfl, rfl, rfl⟩ := hcs
    exact ⟨[], rfl, Nat.le_refl _, Nat.zero_le _, rfl, by omega, fun h => absurd h (by omega)⟩
  · simp [Value.cells] at hcs
    obtain ⟨rfl, rfl, rfl⟩ := hcs
    have hC : Try.prog.cellsOf 39 = 3 := by kernel_rfl
    have he : ∀ i, i < len → ∃ q : S39, W.cell? (x.add (i * 3)) = some (.int .i64 q.f0) ∧ W.cell? (x.add (i * 3 + 1)) = some (.int .i64 q.f1) ∧ W.cell? (x.add (i * 3 + 2)) = some (.bool q.f2) := by
      intro i hil
      obtain ⟨cs', hc, ht'⟩ := hi i (by rw [hmm, if_pos rfl]; omega)
      rw [hC] at hc
      obtain ⟨ys, n', _, _, hlen, hyl, hfd⟩ := DataW.trod_struct Try.underlying39 ht'
      obtain ⟨_, hcl, hat⟩ := World.cells?_some hc
      have h0 := hfd 0 _ rfl
      have h1 := hfd 1 _ rfl
      have h2 := hfd 2 _ rfl
      match cs', hcl, ys, hyl with
      | [c0, c1, c2], _, [y0, y1, y2], _ =>
        have e0 : Try.prog.cellsOf 3 = 1 := by kernel_rfl
        have e4 : Try.prog.cellsOf 4 = 1 := by kernel_rfl
        simp [e0, e4] at h0 h1 h2
        obtain ⟨n0, hn0, _, _⟩ := DataW.trod_int Try.underlying3 h0
        obtain ⟨n1, hn1, _, _⟩ := DataW.trod_int Try.underlying3 h1
        obtain ⟨n2, hn2, _⟩ := DataW.trod_bool Try.underlying4 h2
        simp at hn0 hn1 hn2
        subst hn0 hn1 hn2
        refine ⟨⟨n0, n1, n2⟩, ?_, ?_, ?_⟩
        · have := hat 0 (by omega)
          rw [Go.Deep.add_add] at this
          exact this
        · have := hat 1 (by omega)
          rw [Go.Deep.add_add] at this
          exact this
        · have := hat 2 (by omega)
          rw [Go.Deep.add_add] at this
          exact this
    obtain ⟨ps, hps, hall⟩ := list_of len he
    refine ⟨ps, hps, hl, hm, hps, by unfold maxLen at hm; omega, fun _ => ⟨x, rfl, fun j q hj => ⟨[.int .i64 q.f0, .int .i64 q.f1, .bool q.f2], rfl, k39_mk W q, fun i u hu => ?_⟩⟩⟩
    obtain ⟨g0, g1, g2⟩ := hall j q hj
    match i, hu with
    | 0, hu => cases hu; exact g0
    | 1, hu => cases hu; exact g1
    | 2, hu => cases hu; exact g2
end Go.Proofs.Ytaegldcifhgnmaa.A

/- FeudsApart holds: its code returns true and leaves what it was given as it was. Conditions: those of the given statement, none besides. -/
namespace Go.Proofs.Ytaegldcifhgnmaa.feudsApart
open Go.ChangeShapes Go.WideShapes Go.ChangeAt Go.RowKit
open Go.ChangeMaps (open_string shut_string)
open Go.Proofs.YtaegldcifhgnmaaW.PrintWords
open Go.Proofs.Ytaegldcifhgnmaa.A Go.Proofs.Ytaegldcifhgnmaa.B
set_option linter.unusedVariables false
theorem own : ownKnob Try.prog.godebug = none := by kernel_rfl
theorem laidOut : laidOutB Try.prog = true := by kernel_rfl
def IsRow (k : IntKind) (w : World) (a : Option Addr) (len cap : Nat) (zs : List Int) : Prop :=
  (a = none ∧ len = 0 ∧ cap = 0 ∧ zs = []) ∨
  ∃ x, a = some x ∧ len ≤ cap ∧ cap ≤ maxLen ∧ zs.length = cap ∧ (∀ i, i < zs.length → w.cell? (x.add i) = some (.int k (zs.getD i 0))) ∧ ∀ n ∈ zs, (Lit.int k n).wf = true
set_option maxRecDepth 100000 in
theorem lifted (os : Os) (started : os.Started) (H : Type) (enc : TypeId × Value → H) :
    ReturnsInHanded {} Try.checked os 14 .any (Rows.feudsApartSpec.pre6 enc Try.prog Try.f14 Rows.feudsApartRow.domain false) (Rows.feudsApartSpec.post enc Try.prog Try.f14 false true false false) := by
  refine returnsInHanded_of_change_sized (C := Try.checked) own started (by kernel_rfl) Try.func14
    (ChangeSpec.witness6 (enc := enc) (C := Try.checked) false ⟨#[], #[.int .i64 0, .slice none 0 0], []⟩ 8 (by kernel_rfl) (by kernel_rfl) (by kernel_rfl) (by kernel_rfl)) ?_
  intro W base args ds gs before hval0 hW hcnd hsz0 _
  have hsz : (DataW.weightsEach Try.prog (Try.f14.params.toList ++ Rows.feudsApartSpec.plain.varTypes Try.prog) (ds ++ gs)).all (· ≤ reachBytes) = true := hsz0
  have hval : ∀ (j : Nat) t v, Try.f14.params[j]? = some t → args[j]? = some v → Value.okWide Try.prog W .any base t v := hval0
  have hW' := hW
  obtain ⟨p, q, hA0, hV, rfl, hfz, hnd⟩ := hW
  have hA : DataW.TrodAll enc Try.prog W 0 (fun _ => true) true Try.f14.params.toList args.toList ds p := hA0
  rw [Try.params14] at hA hval hsz
  obtain ⟨v0, vs0, d0, ds0, p0, q0, hargs, rfl, rfl, h0, r0⟩ := trodAll_cons hA
  obtain ⟨v1, vs1, d1, ds1, p1, q1, rfl, rfl, rfl, h1, r1⟩ := trodAll_cons r0
  obtain ⟨rfl, rfl, rfl⟩ := trodAll_nil r1
  obtain rfl : args = #[v0, v1] := by cases args; simp_all
  obtain ⟨rfl, rfl⟩ := trodVars_none hV
  obtain ⟨a0, rfl, rfl, rfl, w0⟩ := open_int Try.underlying3 (hval 0 3 v0 rfl rfl) h0
  obtain ⟨a1, len1, cap1, rfl⟩ := okWide_slice Try.underlying22 (hval 1 22 v1 rfl rfl)
  have k1 := h1
  have lt1 : ∀ x ∈ p1, x.block < W.heap.size := by obtain ⟨m, hm⟩ := k1; exact DataW.trod_lt m _ _ _ hm
  obtain ⟨l1, rfl, hc1, hm1, hr1⟩ := open_ties h1
  clear hA0 hval0 hsz0 hsz
  refine (apart_any a0 a1 cap1 l1 W hr1 hc1).mono fun e W' ⟨he, bel⟩ => ?_
  subst he
  exact ⟨_, rfl, _, _, _, [], _, [], hW', trodAll_mk1 (shut_bool Try.underlying4 _), (trodAll_cons_mk (shut_int Try.underlying3 w0) (trodAll_cons_mk (Below.trod laidOut (by kernel_rfl) (of_decide_eq_true (by kernel_rfl)) k1 bel lt1) trodAll_mk0)), rfl, bel.frame _, fun h => by cases h⟩
theorem over : Rows.feudsApartRow.holds Try.pinned (OpenSpec.ofChange Rows.feudsApartSpec) :=
  OpenClaim.holds_of_wide 14 Try.f14 rfl rfl rfl rfl rfl rfl rfl ⟨rfl, rfl, rfl, rfl, rfl⟩ rfl rfl rfl rfl rfl (by kernel_rfl) Try.func14 (by kernel_rfl)
    (of_decide_eq_true (by kernel_rfl)) (by unfold Func.isWrapper; first | (rw [if_pos (by decide +kernel)]; kernel_rfl) | (rw [if_neg (by decide +kernel)]; exact ⟨rfl, rfl⟩))
    (fun os started H enc _ => lifted os started H enc)
theorem proved : Rows.FeudsApartSaid := over
#print axioms proved
end Go.Proofs.Ytaegldcifhgnmaa.feudsApart
namespace Go.Proofs.Ytaegldcifhgnmaa
/-- The row, under a short name, for the claim. -/
theorem feudsApart_holds : Rows.FeudsApartSaid := feudsApart.proved
end Go.Proofs.Ytaegldcifhgnmaa
