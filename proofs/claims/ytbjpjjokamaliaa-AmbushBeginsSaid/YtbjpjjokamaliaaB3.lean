/- Has every line both spots of some pair? -/
import Derived.Test.YtbjpjjokamaliaaB2
namespace Go.Proofs.Ytbjpjjokamaliaa.A
open Go.RowKit Go.Proofs.YtbjpjjokamaliaaW.PrintWords Go.Proofs.YtbjpjjokamaliaaW.PrintMore

/-- A pair of spots of a field of m spots. -/
def okPr (m : Nat) (q : S59) : Prop := 0 ≤ q.f0 ∧ q.f0 < m ∧ 0 ≤ q.f1 ∧ q.f1 < m
/-- The spots of a pair. -/
def setN (q : S59) : Nat := 2 ^ q.f0.toNat ||| 2 ^ q.f1.toNat
theorem setN_lt {m : Nat} {q : S59} (h : okPr m q) : setN q < 2 ^ m := by
  obtain ⟨h0, h1, h2, h3⟩ := h
  exact or_lt (Nat.pow_lt_pow_right (by decide) (by omega)) (Nat.pow_lt_pow_right (by decide) (by omega))
/-- Has a line both spots of a pair? -/
def inP (x : Int) (q : S59) : Bool := decide (less (setN q) x.toNat = 0)
/-- Has every line both spots of some pair? -/
def metB (l : List Int) (ps : List S59) : Bool := l.all fun x => ps.any (inP x)

set_option maxHeartbeats 400000 in
theorem set_calls (m : Nat) (h9 : m ≤ 9) (q : S59) (hq : okPr m q) (w : World) :
    Calls Try.prog 50 #[.agg #[.int .i64 q.f0, .int .i64 q.f1]] w fun e w' => e = .returned (.int .i64 (setN q : Nat)) ∧ Below w.heap.size w w' := by
  obtain ⟨a, b⟩ := q
  obtain ⟨h0, h1, h2, h3⟩ := hq
  simp only at h0 h1 h2 h3 ⊢
  obtain ⟨i, rfl⟩ := Int.eq_ofNat_of_zero_le h0
  obtain ⟨j, rfl⟩ := Int.eq_ofNat_of_zero_le h2
  have e : bits .or .i64 (wrap64 (2 ^ i)) (wrap64 (2 ^ j)) = ((setN ⟨i, j⟩ : Nat) : Int) := by
    rw [wrap64_two (by omega), wrap64_two (by omega)]
    have e1 : ((2 : Int) ^ i) = ((2 ^ i : Nat) : Int) := by simp
    have e2 : ((2 : Int) ^ j) = ((2 ^ j : Nat) : Int) := by simp
    rw [e1, e2, or64 _ _ (two_lt (by omega)) (two_lt (by omega))]
    rfl
  have E := Aside0.mk e
  clear e
  go_enter Try.func50, Try.ntmps50
  go_wp2
  go_quiet (fail)
  go_wp2
  go_ret
  exact ⟨by rw [← E.out]; rfl, pw_below_drewN (below_alloc (Below.refl _ _) _) _⟩

theorem enters68 : ∀ args w, (callFunc 68 args).run Try.prog w = .ok (.enter 68 args) w := enters_of Try.func68 (by kernel_rfl) rfl
theorem enters70 : ∀ args w, (callFunc 70 args).run Try.prog w = .ok (.enter 70 args) w := enters_of Try.func70 (by kernel_rfl) rfl

set_option maxHeartbeats 800000 in
theorem met11_pred (m : Nat) (h9 : m ≤ 9) (x : Nat) (hx : x < 2 ^ m) (ps : List S59) (hps : ∀ q ∈ ps, okPr m q) (g : Nat) (w : World) (hc : w.cell? ⟨g, 0, none⟩ = some (.int .i64 x)) :
    PredB 70 #[.pointer (some ⟨g, 0, none⟩)] (fun q : S59 => .agg #[.int .i64 q.f0, .int .i64 q.f1]) (fun q => inP x q) ps w := by
  intro W q hq hb
  have hcW := pw_cell_below hb hc
  have HB := Aside0.mk hb
  have HQ := Aside0.mk (hps q hq)
  have e : (bits .andNot .i64 ((setN q : Nat) : Int) (x : Int) == 0) = inP (x : Int) q := by
    rw [andNot64 _ _ (lt62 (setN_lt HQ.out) (by omega)) (lt62 hx (by omega))]
    unfold inP
    rw [Bool.eq_iff_iff, Int.toNat_natCast]; simp
  have EV := Aside0.mk e
  clear hb hc e hq hps hx
  show Calls Try.prog 70 #[.agg #[.int .i64 q.f0, .int .i64 q.f1], .pointer (some ⟨g, 0, none⟩)] W fun e w' => e = .returned (.bool (inP (x : Int) q)) ∧ Below w.heap.size w w'
  rw [← EV.out]
  go_enter Try.func70, Try.ntmps70
  go_wp2
  have HW := Aside0.mk (below_alloc (Below.refl W.heap.size W) (.cells #[.int .i64 q.f0, .int .i64 q.f1] 59))
  have hk : (W.alloc (.cells #[.int .i64 q.f0, .int .i64 q.f1] 59)).heap[W.heap.size]? = some (.cells #[.int .i64 q.f0, .int .i64 q.f1] 59 (0, 0)) := heap_alloc_new W _
  have hs0 : (fun w' : World => w'.cell? ⟨W.heap.size, 0, none⟩ = some (.int .i64 q.f0) ∧ w'.cell? ⟨W.heap.size, 1, none⟩ = some (.int .i64 q.f1) ∧ w'.cell? ⟨g, 0, none⟩ = some (.int .i64 x) ∧ Aside0 (Below W.heap.size W w')) ((W.alloc (.cells #[.int .i64 q.f0, .int .i64 q.f1] 59)).drew) :=
    ⟨(cells2 hk).1, (cells2 hk).2.1, pw_cell_below (below_alloc (Below.refl _ _) _) hcW, ⟨(below_alloc (Below.refl _ _) _).drew⟩⟩
  have HS0 := Aside0.mk hs0
  clear hs0 hk HW
  go_region_held3 (fun w' : World => w'.cell? ⟨W.heap.size, 0, none⟩ = some (.int .i64 q.f0) ∧ w'.cell? ⟨W.heap.size, 1, none⟩ = some (.int .i64 q.f1) ∧ w'.cell? ⟨g, 0, none⟩ = some (.int .i64 x) ∧ Aside0 (Below W.heap.size W w'))
    (first | exact HS0.out | (have hh := (by assumption : _ ∧ _ ∧ _ ∧ Aside0 (Below _ _ _)); exact ⟨pw_cell_below hb2 hh.1, pw_cell_below hb2 hh.2.1, pw_cell_below hb2 hh.2.2.1, ⟨below_then hh.2.2.2.out hh.2.2.2.out.size hb2⟩⟩))
    (first | (go_at_call 50; refine (set_calls m h9 q HQ.out _).mono ?_; rintro e w2 ⟨rfl, hb2⟩))
  go_wp2
  go_ret
  exact ⟨rfl, below_then HB.out HB.out.size (below_then HS0.out.2.2.2.out HS0.out.2.2.2.out.size hb2)⟩

set_option maxHeartbeats 800000 in
theorem met1_pred (m : Nat) (h9 : m ≤ 9) (l : List Int) (hl : okL m l) (A : Option Addr) (n c : Nat) (ps : List S59) (hps : ∀ q ∈ ps, okPr m q) (g : Nat) (w : World) (hc : w.cell? ⟨g, 0, none⟩ = some (.slice A n c)) (hr : Kd.C k59 w A n ps) :
    PredB 68 #[.pointer (some ⟨g, 0, none⟩)] (fun x => .int .i64 x) (fun x => !ps.any (inP x)) l w := by
  intro W x hx hb
  have hcW := pw_cell_below hb hc
  have hne : g < W.heap.size := World.block_lt_of_cell? W _ hcW
  have HB := Aside0.mk hb
  have HR := Aside0.mk (Kd.C_below hr hb)
  have HP := Aside0.mk hps
  obtain ⟨h1, h2⟩ := hl x hx
  obtain ⟨k, rfl⟩ := Int.eq_ofNat_of_zero_le (show 0 ≤ x by omega)
  have HK : Aside0 (k < 2 ^ m) := ⟨by exact_mod_cast h2⟩
  clear hb hc hx hl h1 h2 hr hps
  show Calls Try.prog 68 #[.int .i64 (k : Int), .pointer (some ⟨g, 0, none⟩)] W fun e w' => e = .returned (.bool (!ps.any (inP (k : Int)))) ∧ Below w.heap.size w w'
  go_enter Try.func68, Try.ntmps68
  go_wp2_with (go_at_call 69; refine (ContainsFunc_pair 70 #[.pointer (some ⟨W.heap.size, 0, none⟩)] (fun q => inP (k : Int) q) enters70 A n c ps _ (Kd.C_alloc HR.out _) ?s2).mono ?_; (case s2 => refine met11_pred m h9 k HK.out ps HP.out _ _ ?_; simp); rintro e w2 ⟨rfl, hb2⟩; have HB2 := Aside0.mk hb2; clear hb2)
  go_ret
  exact ⟨by first | rfl | simp, below_then HB.out HB.out.size (below_then (below_alloc (Below.refl _ _) _) (below_alloc (Below.refl _ _) _).size HB2.out)⟩

theorem metB_eq (l : List Int) (ps : List S59) : metB l ps = !(l.any fun x => !ps.any (inP x)) := by
  unfold metB
  rw [List.not_any_eq_all_not]
  simp

set_option maxHeartbeats 800000 in
theorem met_calls (m : Nat) (h9 : m ≤ 9) (l : List Int) (hl : okL m l) (A : Option Addr) (n c : Nat) (A2 : Option Addr) (n2 c2 : Nat) (ps : List S59) (hps : ∀ q ∈ ps, okPr m q) (w : World) (hr : Kd.C (Kd.int .i64) w A n l) (hr2 : Kd.C k59 w A2 n2 ps) :
    Calls Try.prog 49 #[.agg #[.int .i64 m, .slice A n c], .slice A2 n2 c2] w fun e w' => e = .returned (.bool (metB l ps)) ∧ Below w.heap.size w w' := by
  have HR := Aside0.mk hr
  have HR2 := Aside0.mk hr2
  have HP := Aside0.mk hps
  have HL := Aside0.mk hl
  clear hr hr2 hps hl
  rw [metB_eq]
  go_enter Try.func49, Try.ntmps49
  go_wp2_with (go_at_call 59; refine (ContainsFunc_int 68 #[.pointer (some ⟨w.heap.size + 1, 0, none⟩)] (fun x => !ps.any (inP x)) enters68 A n c l _ (Kd.C_alloc (Kd.C_alloc HR.out _) _) ?s2).mono ?_; (case s2 => refine met1_pred m h9 l HL.out A2 n2 c2 ps HP.out _ _ ?_ (Kd.C_alloc (Kd.C_alloc HR2.out _) _); simp); rintro e w2 ⟨rfl, hb2⟩; have HB2 := Aside0.mk hb2; clear hb2)
  go_ret
  exact ⟨by first | rfl | simp, btrans2 HB2.out⟩
end Go.Proofs.Ytbjpjjokamaliaa.A
