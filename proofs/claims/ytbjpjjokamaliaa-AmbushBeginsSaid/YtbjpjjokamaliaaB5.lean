/- The search for a pairing: the walk. -/
import Derived.Test.YtbjpjjokamaliaaB4
namespace Go.Proofs.Ytbjpjjokamaliaa.A
open Go.RowKit Go.Proofs.YtbjpjjokamaliaaW.PrintWords Go.Proofs.YtbjpjjokamaliaaW.PrintMore

theorem enters48 : ∀ args w, (callFunc 48 args).run Try.prog w = .ok (.enter 48 args) w := enters_of Try.func48 (by kernel_rfl) rfl

def OnSaid (l : List Int) (w0 : World) (bm g m : Nat) (A : Option Addr) (c k : Nat) : Prop :=
  ∀ (used : Nat) (ps : List S59) (v : Value) (W : World), PSt w0 bm g m A l.length c v ps W → used < 2 ^ m → ps.length + k ≤ 9 → (∀ q ∈ ps, okPr m q) →
    Calls Try.prog 48 #[.int .i64 k, .int .i64 used, .pointer (some ⟨g, 0, none⟩), .pointer (some ⟨g + 1, 0, none⟩), .pointer (some ⟨bm, 0, none⟩), .pointer (some ⟨g + 2, 0, none⟩)] W (OnPost w0 bm g m A l.length c W v ps (srch l m k used ps))

theorem OnPost.mk' {w0 : World} {bm g m : Nat} {A : Option Addr} {n c : Nat} {ps : List S59} {R : Option (List S59)} {b : Bool} {v vi : Value} {q : List S59} {W w' : World} (hb : R.isSome = b) (hq : R.getD ps = q) (h : PSt w0 bm g m A n c v q w') (hf : Fr g W vi w' v) : OnPost w0 bm g m A n c W vi ps R (.returned (.bool b)) w' :=
  ⟨v, by rw [hb], by rw [hq]; exact h, hf⟩

set_option maxRecDepth 100000 in
set_option maxHeartbeats 1600000 in
theorem on_zero (l : List Int) (w0 : World) (bm g m : Nat) (h9 : m ≤ 9) (hl : okL m l) (A : Option Addr) (c : Nat) (hr : Kd.C (Kd.int .i64) w0 A l.length l) : OnSaid l w0 bm g m A c 0 := by
  intro used ps v W hP hu hn hps
  have HR := Aside0.mk (Kd.C_below hr hP.below)
  have HL := Aside0.mk hl
  have HP := Aside0.mk hP
  have HQ := Aside0.mk hps
  obtain ⟨A2, c2, rfl, hc2, hC2⟩ := Kd.R_reads hP.row
  have HC2 := Aside0.mk hC2
  obtain ⟨f0, f1, _, _⟩ := cells2 hP.cf
  obtain ⟨l0, _⟩ := cells1 hP.cl
  clear hr hl hP hps hu hn hC2
  go_enter Try.func48, Try.ntmps48
  go_wp2_with (go_at_call 49; refine (met_calls m h9 l HL.out A l.length c A2 ps.length c2 ps HQ.out _ HR.out HC2.out).mono ?_; rintro e w2 ⟨rfl, hb2⟩; have HB2 := Aside0.mk hb2; clear hb2)
  go_ret
  cases hm : metB l ps with
  | true => exact OnPost.mk' (by rw [srch, hm]; rfl) (by rw [srch, hm]; rfl) (HP.out.next HB2.out) (Fr.of_below HB2.out)
  | false => exact OnPost.mk' (by rw [srch, hm]; rfl) (by rw [srch, hm]; rfl) (HP.out.next HB2.out) (Fr.of_below HB2.out)

theorem info59 : (Try.prog.info? 59).map (fun i => (i.zero, i.size, i.bytes)) = some (some (.agg #[.int .i64 0, .int .i64 0]), 2, 16) := by kernel_rfl

theorem last_cell {W : World} {base : Nat} {ok : Nat → Prop} {v : Value} {q : List S59} {p : S59} (h : Kd.R k59 59 W base ok v (q ++ [p])) :
    ∃ ad c, v = .slice (some ad) (q.length + 1) c ∧ q.length + 1 ≤ c ∧ W.cell? (ad.add (q.length * 2)) = some (.int .i64 p.f0) := by
  obtain ⟨A, c, rfl, hc, hC⟩ := Kd.R_reads h
  have hl : (q ++ [p]).length = q.length + 1 := by simp
  rw [hl] at hC hc ⊢
  obtain ⟨ad, rfl, h0, _⟩ := at_T59 hC (q.length : Int) (by omega) (by omega)
  refine ⟨ad, c, rfl, hc, ?_⟩
  rw [Int.toNat_natCast] at h0
  rw [h0]
  simp [rd_T59]

theorem okB_no {used : Nat} {ps : List S59} {a b : Nat} (h : used &&& setN (pr a b) ≠ 0) : okB used ps a b = false := by simp [okB, h]

set_option maxRecDepth 100000 in
set_option maxHeartbeats 1600000 in
theorem on_step (l : List Int) (w0 : World) (bm g m : Nat) (h9 : m ≤ 9) (A : Option Addr) (c : Nat) (k : Nat) (ih : OnSaid l w0 bm g m A c k) : OnSaid l w0 bm g m A c (k + 1) := by
  intro used ps vi W hP hu hn hps
  have HI := Aside0.mk ih
  have HQ := Aside0.mk hps
  have HU := Aside0.mk hu
  have HN := Aside0.mk hn
  have HP := Aside0.mk hP
  obtain ⟨S, hS⟩ : ∃ S, srch l m (k + 1) used ps = S := ⟨_, rfl⟩
  have HS := Aside0.mk hS
  rw [hS]
  obtain ⟨m0, _⟩ := cells1 hP.cm
  have hk0 : (((k + 1 : Nat) : Int) == 0) = false := by rw [beq_eq_false_iff_ne]; omega
  have hkk : k ≤ 9 := by omega
  clear ih hps hu hn hP hS
  go_enter Try.func48, Try.ntmps48
  go_wp2
  go_loopg [9, 10, 11, 18] m (fun gg _ _ _ v18 wr => ∃ (a : Nat) (v : Value), a ≤ m ∧ m - a ≤ gg ∧ v18 = .int .i64 a ∧ Aside0 (PSt w0 bm g m A l.length c v ps wr ∧ Fr g W vi wr v) ∧ Aside0 (firstN (fun a => firstN (fun b => if a < b ∧ okB used ps a b = true then srch l m k (used ||| setN (pr a b)) (ps ++ [pr a b]) else none) m) a = none))
  case atStart => exact ⟨0, vi, Nat.zero_le _, by omega, rfl, ⟨HP.out, Fr.refl _ _ _⟩, ⟨rfl⟩⟩
  case round =>
    clear HP m0
    obtain ⟨a, v1, ha, hgg, rfl, HP1, HF⟩ := hrel
    obtain ⟨m0, _⟩ := cells1 HP1.out.1.cm
    by_cases hlt : a < m
    · have hltz : (a : Int) < (m : Int) := by omega
      go_wp2
      obtain ⟨wo, rfl⟩ : ∃ wo : World, wo = wr := ⟨_, rfl⟩
      have HG : Aside0 (firstN (fun b => if a < b ∧ okB used ps a b = true then srch l m k (used ||| setN (pr a b)) (ps ++ [pr a b]) else none) (a + 1) = none) := ⟨firstN_none _ fun i hi => by rw [if_neg (by omega)]⟩
      go_loopg [10, 11] m (fun gg2 v10 _ wr => ∃ (b : Nat) (v : Value), a < b ∧ b ≤ m ∧ m - b ≤ gg2 ∧ v10 = .int .i64 b ∧ Aside0 (PSt w0 bm g m A l.length c v ps wr ∧ Fr g W vi wr v) ∧ Aside0 (firstN (fun b => if a < b ∧ okB used ps a b = true then srch l m k (used ||| setN (pr a b)) (ps ++ [pr a b]) else none) b = none))
      case atStart => exact ⟨a + 1, v1, by omega, by omega, by omega, by go_num, HP1, HG⟩
      case round =>
        clear HP1 HG m0
        obtain ⟨b, v2, hab, hb, hgg2, rfl, HP1, HG⟩ := hrel
        obtain ⟨m0, _⟩ := cells1 HP1.out.1.cm
        obtain ⟨l0, lf0⟩ := cells1 HP1.out.1.cl
        by_cases hblt : b < m
        · have hbltz : (b : Int) < (m : Int) := by omega
          have HOK : Aside0 (okPr m (pr a b)) := ⟨⟨by show (0 : Int) ≤ (a : Int); omega, by show (a : Int) < m; omega, by show (0 : Int) ≤ (b : Int); omega, by show (b : Int) < m; omega⟩⟩
          have hlt1 : g + 1 < wr.heap.size := by have := HP1.out.1.big; omega
          by_cases hus : used &&& setN (pr a b) = 0
          · have hand := and64 used (setN (pr a b)) (lt62 HU.out (by omega)) (lt62 (setN_lt HOK.out) (by omega))
            rw [hus] at hand
            have HUS := Aside0.mk hus
            obtain ⟨z, hz⟩ : ∃ z, setN (pr a b) = z := ⟨_, rfl⟩
            have HZ := Aside0.mk hz
            rw [hz] at hand
            clear hz hus
            rcases List.eq_nil_or_concat ps with hnil | ⟨q, p, hcc⟩
            · obtain ⟨A2, c2, hv2, hc2, _⟩ := Kd.R_reads HP1.out.1.row
              have hl0 : ps.length = 0 := by rw [hnil]; rfl
              rw [hl0] at hv2
              subst hv2
              have HNI := Aside0.mk hnil
              clear hnil hl0
              have hrt : ∀ kk, (.slice A2 0 c2 : Value).ownBlock = some kk → kk < wr.heap.size := Kd.R_lt HP1.out.1.row
              have HRT := Aside0.mk hrt
              clear hrt
              go_wp2_with (first | (go_at_call 50; refine (set_calls m h9 (pr a b) HOK.out _).mono ?_; rw [HZ.out]; rintro e w2 ⟨rfl, hb2⟩; have hb3 := below_then (below_alloc (Below.refl wr.heap.size wr) _) (below_alloc (Below.refl _ _) _).size hb2; have HP2 : Aside0 (PSt w0 bm g m A l.length c (.slice A2 0 c2) ps w2 ∧ Fr g W vi w2 (.slice A2 0 c2)) := ⟨HP1.out.1.next hb3, HP1.out.2.trans (Fr.of_below hb3)⟩;  have HT2 := Aside0.mk ((hb2.block _ (by simp)).trans (heap_alloc_new wr (.cells #[.int .i64 a, .int .i64 b] 59))); obtain ⟨l2, lf2⟩ := cells1 HP2.out.1.cl; obtain ⟨t0, t1, tf0, tf1⟩ := cells2 HT2.out; clear hb2 hb3 l0 lf0) | (at_builtin; refine Kd.R_append k59 (w0 := w2) (g + 3) rfl (.tmp 52) (.tmp 54) 46 59 (.agg #[.int .i64 0, .int .i64 0]) 16 rfl Try.underlying46 info59 rfl (by decide) (by omega) (.slice A2 0 c2) ps (pr a b) [.int .i64 (a : Int), .int .i64 (b : Int)] (fun _ => True) (fun _ => False) rfl rfl (k59_mkM _ _ _ (pr a b)) (fun _ hk => hk.elim) (fun _ _ => trivial) HP2.out.1.row (Below.refl _ _) (by have := HP2.out.1.big; omega) (by have := HN.out; omega) ?_; intro v4 w4 ho hbb hg4 hat; obtain ⟨A4, c4, hv4, hc4, _⟩ := Kd.R_reads ho; rw [show (ps ++ [pr a b]).length = ps.length + 1 from by simp] at hv4; subst hv4; have HA := Aside0.mk (And.intro ho (And.intro hg4 hat)); have hk4 := (hg4.block _ (blk_lt HP2.out.1.cl) (fun e => by have := Kd.R_base HP2.out.1.row _ e.symm; omega)).trans HP2.out.1.cl; have hk5 := (hg4.block _ (blk_lt HT2.out) (fun e => by have := HRT.out _ e.symm; omega)).trans HT2.out; have HT4 := Aside0.mk hk5; obtain ⟨l4, lf4⟩ := cells1 hk4; clear ho hbb hg4 hat hk4 hk5 t0 t1 tf0 tf1 l2 lf2))
              have H5 : Aside0 (PSt w0 bm g m A l.length c (.slice A4 (ps.length + 1) c4) (ps ++ [pr a b]) (w4.setCell ⟨g + 1, 0, none⟩ (.slice A4 (ps.length + 1) c4)) ∧ Fr g W vi (w4.setCell ⟨g + 1, 0, none⟩ (.slice A4 (ps.length + 1) c4)) (.slice A4 (ps.length + 1) c4) ∧ (w4.setCell ⟨g + 1, 0, none⟩ (.slice A4 (ps.length + 1) c4)).heap[wr.heap.size]? = some (.cells #[.int .i64 (a : Int), .int .i64 (b : Int)] 59 (0, 0)) ∧ some wr.heap.size ≠ (Value.slice A4 (ps.length + 1) c4).ownBlock ∧ g + 1 < wr.heap.size) := by
                refine ⟨HP2.out.1.store HA.out.2.1 HA.out.1, (HP2.out.2.trans (Fr.of_grown HA.out.2.1 HA.out.2.2)).trans (Fr.set _), blk_far HT4.out (by show wr.heap.size ≠ g + 1; have := HP1.out.1.big; omega) _, ?_, by have := HP1.out.1.big; omega⟩
                intro e
                rcases HA.out.2.2 with ho | ⟨bb, hbb, hle⟩
                · have := HRT.out _ (ho.symm.trans e.symm); omega
                · rw [hbb] at e; cases e
                  have := blk_lt HT2.out; omega
              obtain ⟨W5, hW5⟩ : ∃ W5, W5 = w4.setCell ⟨g + 1, 0, none⟩ (.slice A4 (ps.length + 1) c4) := ⟨_, rfl⟩
              rw [← hW5] at H5 ⊢
              obtain ⟨h, hh⟩ : ∃ h, h = wr.heap.size := ⟨_, rfl⟩
              rw [← hh] at H5 ⊢
              obtain ⟨V4, hV4⟩ : ∃ V4, V4 = Value.slice A4 (ps.length + 1) c4 := ⟨_, rfl⟩
              rw [← hV4] at H5
              clear hW5 hh l4 lf4 HA HT4 HRT HP2 HT2 HP1
              have hs0 : (fun w' : World => w'.cell? ⟨g + 2, 0, none⟩ = some (.func (.func 48) #[] #[.pointer (some ⟨g, 0, none⟩), .pointer (some ⟨g + 1, 0, none⟩), .pointer (some ⟨bm, 0, none⟩), .pointer (some ⟨g + 2, 0, none⟩)]) ∧ w'.cell? ⟨h, 0, none⟩ = some (.int .i64 (a : Int)) ∧ w'.cell? ⟨h, 1, none⟩ = some (.int .i64 (b : Int)) ∧ Aside0 (h < w'.heap.size)) W5.drew := ⟨(cells1 H5.out.1.co).1, (cells2 H5.out.2.2.1).1, (cells2 H5.out.2.2.1).2.1, ⟨blk_lt H5.out.2.2.1⟩⟩
              have HS0 := Aside0.mk hs0
              obtain ⟨R, hRR⟩ : ∃ R, srch l m k (used ||| z) (ps ++ [pr a b]) = R := ⟨_, rfl⟩
              have HRR := Aside0.mk hRR
              clear hRR
              have HREC : Aside0 (∀ W6, PSt w0 bm g m A l.length c V4 (ps ++ [pr a b]) W6 → Calls Try.prog 48 #[.int .i64 k, .int .i64 (used ||| z : Nat), .pointer (some ⟨g, 0, none⟩), .pointer (some ⟨g + 1, 0, none⟩), .pointer (some ⟨bm, 0, none⟩), .pointer (some ⟨g + 2, 0, none⟩)] W6 (OnPost w0 bm g m A l.length c W6 V4 (ps ++ [pr a b]) R)) := ⟨fun W6 h6 => by rw [← HRR.out]; exact HI.out (used ||| z) (ps ++ [pr a b]) V4 W6 h6 (by rw [← HZ.out]; exact or_lt HU.out (setN_lt HOK.out)) (by have := HN.out; simp; omega) (fun q hq => (List.mem_append.1 hq).elim (fun hq => HQ.out q hq) (fun hq => by rw [List.mem_singleton] at hq; rw [hq]; exact HOK.out))⟩
              have hor : bits .or .i64 (used : Int) (z : Int) = ((used ||| z : Nat) : Int) := by rw [← HZ.out]; exact or64 _ _ (lt62 HU.out (by omega)) (lt62 (setN_lt HOK.out) (by omega))
              have hsub : IntKind.i64.wrap ((k : Int) + 1 - 1) = (k : Int) := by rw [IntKind.wrap_i64]; omega
              have hsub2 : (k : Int) + 1 - 1 = (k : Int) := by omega
              have hsub3 : IntKind.i64.wrap (k : Int) = (k : Int) := by rw [IntKind.wrap_i64]; omega
              have eg := enters48
              clear hs0
              go_region_held3 (fun w' : World => w'.cell? ⟨g + 2, 0, none⟩ = some (.func (.func 48) #[] #[.pointer (some ⟨g, 0, none⟩), .pointer (some ⟨g + 1, 0, none⟩), .pointer (some ⟨bm, 0, none⟩), .pointer (some ⟨g + 2, 0, none⟩)]) ∧ w'.cell? ⟨h, 0, none⟩ = some (.int .i64 (a : Int)) ∧ w'.cell? ⟨h, 1, none⟩ = some (.int .i64 (b : Int)) ∧ Aside0 (h < w'.heap.size)) (first | exact HS0.out | (have hq := (by assumption : _ ∧ _ ∧ _ ∧ Aside0 (h < _)); exact ⟨pw_cell_below hb6 hq.1, pw_cell_below hb6 hq.2.1, pw_cell_below hb6 hq.2.2.1, ⟨Nat.lt_of_lt_of_le hq.2.2.2.out hb6.size⟩⟩) | exact HS7.out) (first | (go_at_call 50; refine (set_calls m h9 (pr a b) HOK.out _).mono ?_; rw [HZ.out]; rintro e w6 ⟨rfl, hb6⟩) | (go_at_call 48; have hP6 := H5.out.1.next (below_then (below_drew (Below.refl W5.heap.size W5)) (Nat.le_refl _) hb6); (with_reducible refine (HREC.out _ hP6).mono ?_); rintro e w7 ⟨v7, rfl, hP7, hF7⟩; have hT7 := hF7.cells ((hb6.block h (blk_lt H5.out.2.2.1)).trans H5.out.2.2.1) (by have := H5.out.2.2.2.2; omega) H5.out.2.2.2.1; have HS7 := Aside0.mk (show (fun w' : World => w'.cell? ⟨g + 2, 0, none⟩ = some (.func (.func 48) #[] #[.pointer (some ⟨g, 0, none⟩), .pointer (some ⟨g + 1, 0, none⟩), .pointer (some ⟨bm, 0, none⟩), .pointer (some ⟨g + 2, 0, none⟩)]) ∧ w'.cell? ⟨h, 0, none⟩ = some (.int .i64 (a : Int)) ∧ w'.cell? ⟨h, 1, none⟩ = some (.int .i64 (b : Int)) ∧ Aside0 (h < w'.heap.size)) w7 from ⟨(cells1 hP7.co).1, (cells2 hT7).1, (cells2 hT7).2.1, ⟨blk_lt hT7⟩⟩); have HP7 : Aside0 (PSt w0 bm g m A l.length c v7 (R.getD (ps ++ [pr a b])) w7 ∧ Fr g W vi w7 v7) := ⟨hP7, (H5.out.2.1.trans (Fr.of_below (below_then (below_drew (Below.refl W5.heap.size W5)) (Nat.le_refl _) hb6))).trans hF7⟩; clear hT7 hP7 hF7 hb6))
              clear eg hor hsub hsub2 hsub3 HS0 HREC H5
              cases R with
              | some r =>
                go_wp2
                go_ret
                have hfin : S = some r := by
                  rw [← HS.out, srch]
                  refine firstN_some hlt HF.out (firstN_some hblt HG.out ?_)
                  rw [if_pos ⟨hab, (by rw [okB, HUS.out, HNI.out]; rfl)⟩, HZ.out]
                  exact HRR.out
                subst hfin
                exact OnPost.mk' rfl rfl HP7.out.1 HP7.out.2
              | none =>
                obtain ⟨A7, c7, hv7, hc7, _⟩ := Kd.R_reads HP7.out.1.row
                rw [show ((none : Option (List S59)).getD (ps ++ [pr a b])).length = ps.length + 1 from by simp] at hv7 hc7
                subst hv7
                obtain ⟨l7, lf7⟩ := cells1 HP7.out.1.cl
                have hn9 : ps.length ≤ 9 := by have := HN.out; omega
                go_wp2
                go_roundg (m - (b + 1))
                case measure => omega
                case rel =>
                  have hP8 : PSt w0 bm g m A l.length c (.slice A7 ps.length c7) ps (w7.setCell ⟨g + 1, 0, none⟩ (.slice A7 ps.length c7)) := PSt.cut (n' := ps.length + 1) (p := pr a b) HP7.out.1
                  refine ⟨b + 1, _, by omega, by omega, by omega, by go_num, ⟨hP8, HP7.out.2.trans (Fr.cut.trans (Fr.set _))⟩, ⟨?_⟩⟩
                  rw [firstN_succ_none HG.out, if_pos ⟨hab, (by rw [okB, HUS.out, HNI.out]; rfl)⟩, HZ.out]
                  exact HRR.out
            · rw [List.concat_eq_append] at hcc
              have hrow := HP1.out.1.row
              rw [hcc] at hrow
              obtain ⟨ad, c2, hv2, hc2, hcell⟩ := last_cell hrow
              clear hrow
              have hq9 : q.length ≤ 9 := by have := HN.out; rw [hcc] at this; simp at this; omega
              subst hv2
              have HCC := Aside0.mk hcc
              clear hcc
              have hrt : ∀ kk, (.slice (some ad) (q.length + 1) c2 : Value).ownBlock = some kk → kk < wr.heap.size := Kd.R_lt HP1.out.1.row
              have HRT := Aside0.mk hrt
              clear hrt
              by_cases hap : (a : Int) < p.f0
              · go_wp2_with (go_at_call 50; refine (set_calls m h9 (pr a b) HOK.out _).mono ?_; rw [HZ.out]; rintro e w2 ⟨rfl, hb2⟩; have hb3 := below_then (below_alloc (Below.refl wr.heap.size wr) _) (below_alloc (Below.refl _ _) _).size hb2; have HP2 : Aside0 (PSt w0 bm g m A l.length c (.slice (some ad) (q.length + 1) c2) ps w2 ∧ Fr g W vi w2 (.slice (some ad) (q.length + 1) c2)) := ⟨HP1.out.1.next hb3, HP1.out.2.trans (Fr.of_below hb3)⟩; have hcell2 := pw_cell_below hb3 hcell; have HT2 := Aside0.mk ((hb2.block _ (by simp)).trans (heap_alloc_new wr (.cells #[.int .i64 a, .int .i64 b] 59))); obtain ⟨l2, lf2⟩ := cells1 HP2.out.1.cl; obtain ⟨t0, t1, tf0, tf1⟩ := cells2 HT2.out; clear hb2 hb3 l0 lf0)
                go_roundg (m - (b + 1))
                case measure => omega
                case rel =>
                  refine ⟨b + 1, _, by omega, by omega, by omega, by go_num, HP2, ⟨?_⟩⟩
                  rw [firstN_succ_none HG.out, if_neg (fun h => by have h := h.2; rw [okB, HCC.out] at h; simp [lastOk] at h; omega)]
              · go_wp2_with (first | (go_at_call 50; refine (set_calls m h9 (pr a b) HOK.out _).mono ?_; rw [HZ.out]; rintro e w2 ⟨rfl, hb2⟩; have hb3 := below_then (below_alloc (Below.refl wr.heap.size wr) _) (below_alloc (Below.refl _ _) _).size hb2; have HP2 : Aside0 (PSt w0 bm g m A l.length c (.slice (some ad) (q.length + 1) c2) ps w2 ∧ Fr g W vi w2 (.slice (some ad) (q.length + 1) c2)) := ⟨HP1.out.1.next hb3, HP1.out.2.trans (Fr.of_below hb3)⟩; have hcell2 := pw_cell_below hb3 hcell; have HT2 := Aside0.mk ((hb2.block _ (by simp)).trans (heap_alloc_new wr (.cells #[.int .i64 a, .int .i64 b] 59))); obtain ⟨l2, lf2⟩ := cells1 HP2.out.1.cl; obtain ⟨t0, t1, tf0, tf1⟩ := cells2 HT2.out; clear hb2 hb3 l0 lf0) | (at_builtin; refine Kd.R_append k59 (w0 := w2) (g + 3) rfl (.tmp 52) (.tmp 54) 46 59 (.agg #[.int .i64 0, .int .i64 0]) 16 rfl Try.underlying46 info59 rfl (by decide) (by omega) (.slice (some ad) (q.length + 1) c2) ps (pr a b) [.int .i64 (a : Int), .int .i64 (b : Int)] (fun _ => True) (fun _ => False) rfl rfl (k59_mkM _ _ _ (pr a b)) (fun _ hk => hk.elim) (fun _ _ => trivial) HP2.out.1.row (Below.refl _ _) (by have := HP2.out.1.big; omega) (by have := HN.out; omega) ?_; intro v4 w4 ho hbb hg4 hat; obtain ⟨A4, c4, hv4, hc4, _⟩ := Kd.R_reads ho; rw [show (ps ++ [pr a b]).length = ps.length + 1 from by simp] at hv4; subst hv4; have HA := Aside0.mk (And.intro ho (And.intro hg4 hat)); have hk4 := (hg4.block _ (blk_lt HP2.out.1.cl) (fun e => by have := Kd.R_base HP2.out.1.row _ e.symm; omega)).trans HP2.out.1.cl; have hk5 := (hg4.block _ (blk_lt HT2.out) (fun e => by have := HRT.out _ e.symm; omega)).trans HT2.out; have HT4 := Aside0.mk hk5; obtain ⟨l4, lf4⟩ := cells1 hk4; clear ho hbb hg4 hat hk4 hk5 t0 t1 tf0 tf1 l2 lf2))
                have H5 : Aside0 (PSt w0 bm g m A l.length c (.slice A4 (ps.length + 1) c4) (ps ++ [pr a b]) (w4.setCell ⟨g + 1, 0, none⟩ (.slice A4 (ps.length + 1) c4)) ∧ Fr g W vi (w4.setCell ⟨g + 1, 0, none⟩ (.slice A4 (ps.length + 1) c4)) (.slice A4 (ps.length + 1) c4) ∧ (w4.setCell ⟨g + 1, 0, none⟩ (.slice A4 (ps.length + 1) c4)).heap[wr.heap.size]? = some (.cells #[.int .i64 (a : Int), .int .i64 (b : Int)] 59 (0, 0)) ∧ some wr.heap.size ≠ (Value.slice A4 (ps.length + 1) c4).ownBlock ∧ g + 1 < wr.heap.size) := by
                  refine ⟨HP2.out.1.store HA.out.2.1 HA.out.1, (HP2.out.2.trans (Fr.of_grown HA.out.2.1 HA.out.2.2)).trans (Fr.set _), blk_far HT4.out (by show wr.heap.size ≠ g + 1; have := HP1.out.1.big; omega) _, ?_, by have := HP1.out.1.big; omega⟩
                  intro e
                  rcases HA.out.2.2 with ho | ⟨bb, hbb, hle⟩
                  · have := HRT.out _ (ho.symm.trans e.symm); omega
                  · rw [hbb] at e; cases e
                    have := blk_lt HT2.out; omega
                obtain ⟨W5, hW5⟩ : ∃ W5, W5 = w4.setCell ⟨g + 1, 0, none⟩ (.slice A4 (ps.length + 1) c4) := ⟨_, rfl⟩
                rw [← hW5] at H5 ⊢
                obtain ⟨h, hh⟩ : ∃ h, h = wr.heap.size := ⟨_, rfl⟩
                rw [← hh] at H5 ⊢
                obtain ⟨V4, hV4⟩ : ∃ V4, V4 = Value.slice A4 (ps.length + 1) c4 := ⟨_, rfl⟩
                rw [← hV4] at H5
                clear hW5 hh l4 lf4 HA HT4 HRT HP2 HT2 HP1
                have hs0 : (fun w' : World => w'.cell? ⟨g + 2, 0, none⟩ = some (.func (.func 48) #[] #[.pointer (some ⟨g, 0, none⟩), .pointer (some ⟨g + 1, 0, none⟩), .pointer (some ⟨bm, 0, none⟩), .pointer (some ⟨g + 2, 0, none⟩)]) ∧ w'.cell? ⟨h, 0, none⟩ = some (.int .i64 (a : Int)) ∧ w'.cell? ⟨h, 1, none⟩ = some (.int .i64 (b : Int)) ∧ Aside0 (h < w'.heap.size)) W5.drew := ⟨(cells1 H5.out.1.co).1, (cells2 H5.out.2.2.1).1, (cells2 H5.out.2.2.1).2.1, ⟨blk_lt H5.out.2.2.1⟩⟩
                have HS0 := Aside0.mk hs0
                obtain ⟨R, hRR⟩ : ∃ R, srch l m k (used ||| z) (ps ++ [pr a b]) = R := ⟨_, rfl⟩
                have HRR := Aside0.mk hRR
                clear hRR
                have HREC : Aside0 (∀ W6, PSt w0 bm g m A l.length c V4 (ps ++ [pr a b]) W6 → Calls Try.prog 48 #[.int .i64 k, .int .i64 (used ||| z : Nat), .pointer (some ⟨g, 0, none⟩), .pointer (some ⟨g + 1, 0, none⟩), .pointer (some ⟨bm, 0, none⟩), .pointer (some ⟨g + 2, 0, none⟩)] W6 (OnPost w0 bm g m A l.length c W6 V4 (ps ++ [pr a b]) R)) := ⟨fun W6 h6 => by rw [← HRR.out]; exact HI.out (used ||| z) (ps ++ [pr a b]) V4 W6 h6 (by rw [← HZ.out]; exact or_lt HU.out (setN_lt HOK.out)) (by have := HN.out; simp; omega) (fun q hq => (List.mem_append.1 hq).elim (fun hq => HQ.out q hq) (fun hq => by rw [List.mem_singleton] at hq; rw [hq]; exact HOK.out))⟩
                have hor : bits .or .i64 (used : Int) (z : Int) = ((used ||| z : Nat) : Int) := by rw [← HZ.out]; exact or64 _ _ (lt62 HU.out (by omega)) (lt62 (setN_lt HOK.out) (by omega))
                have hsub : IntKind.i64.wrap ((k : Int) + 1 - 1) = (k : Int) := by rw [IntKind.wrap_i64]; omega
                have hsub2 : (k : Int) + 1 - 1 = (k : Int) := by omega
                have hsub3 : IntKind.i64.wrap (k : Int) = (k : Int) := by rw [IntKind.wrap_i64]; omega
                have eg := enters48
                clear hs0
                go_region_held3 (fun w' : World => w'.cell? ⟨g + 2, 0, none⟩ = some (.func (.func 48) #[] #[.pointer (some ⟨g, 0, none⟩), .pointer (some ⟨g + 1, 0, none⟩), .pointer (some ⟨bm, 0, none⟩), .pointer (some ⟨g + 2, 0, none⟩)]) ∧ w'.cell? ⟨h, 0, none⟩ = some (.int .i64 (a : Int)) ∧ w'.cell? ⟨h, 1, none⟩ = some (.int .i64 (b : Int)) ∧ Aside0 (h < w'.heap.size)) (first | exact HS0.out | (have hq := (by assumption : _ ∧ _ ∧ _ ∧ Aside0 (h < _)); exact ⟨pw_cell_below hb6 hq.1, pw_cell_below hb6 hq.2.1, pw_cell_below hb6 hq.2.2.1, ⟨Nat.lt_of_lt_of_le hq.2.2.2.out hb6.size⟩⟩) | exact HS7.out) (first | (go_at_call 50; refine (set_calls m h9 (pr a b) HOK.out _).mono ?_; rw [HZ.out]; rintro e w6 ⟨rfl, hb6⟩) | (go_at_call 48; have hP6 := H5.out.1.next (below_then (below_drew (Below.refl W5.heap.size W5)) (Nat.le_refl _) hb6); (with_reducible refine (HREC.out _ hP6).mono ?_); rintro e w7 ⟨v7, rfl, hP7, hF7⟩; have hT7 := hF7.cells ((hb6.block h (blk_lt H5.out.2.2.1)).trans H5.out.2.2.1) (by have := H5.out.2.2.2.2; omega) H5.out.2.2.2.1; have HS7 := Aside0.mk (show (fun w' : World => w'.cell? ⟨g + 2, 0, none⟩ = some (.func (.func 48) #[] #[.pointer (some ⟨g, 0, none⟩), .pointer (some ⟨g + 1, 0, none⟩), .pointer (some ⟨bm, 0, none⟩), .pointer (some ⟨g + 2, 0, none⟩)]) ∧ w'.cell? ⟨h, 0, none⟩ = some (.int .i64 (a : Int)) ∧ w'.cell? ⟨h, 1, none⟩ = some (.int .i64 (b : Int)) ∧ Aside0 (h < w'.heap.size)) w7 from ⟨(cells1 hP7.co).1, (cells2 hT7).1, (cells2 hT7).2.1, ⟨blk_lt hT7⟩⟩); have HP7 : Aside0 (PSt w0 bm g m A l.length c v7 (R.getD (ps ++ [pr a b])) w7 ∧ Fr g W vi w7 v7) := ⟨hP7, (H5.out.2.1.trans (Fr.of_below (below_then (below_drew (Below.refl W5.heap.size W5)) (Nat.le_refl _) hb6))).trans hF7⟩; clear hT7 hP7 hF7 hb6))
                clear eg hor hsub hsub2 hsub3 HS0 HREC H5
                cases R with
                | some r =>
                  go_wp2
                  go_ret
                  have hfin : S = some r := by
                    rw [← HS.out, srch]
                    refine firstN_some hlt HF.out (firstN_some hblt HG.out ?_)
                    rw [if_pos ⟨hab, (by rw [okB, HUS.out, HCC.out]; simp [lastOk]; omega)⟩, HZ.out]
                    exact HRR.out
                  subst hfin
                  exact OnPost.mk' rfl rfl HP7.out.1 HP7.out.2
                | none =>
                  obtain ⟨A7, c7, hv7, hc7, _⟩ := Kd.R_reads HP7.out.1.row
                  rw [show ((none : Option (List S59)).getD (ps ++ [pr a b])).length = ps.length + 1 from by simp] at hv7 hc7
                  subst hv7
                  obtain ⟨l7, lf7⟩ := cells1 HP7.out.1.cl
                  have hn9 : ps.length ≤ 9 := by have := HN.out; omega
                  go_wp2
                  go_roundg (m - (b + 1))
                  case measure => omega
                  case rel =>
                    have hP8 : PSt w0 bm g m A l.length c (.slice A7 ps.length c7) ps (w7.setCell ⟨g + 1, 0, none⟩ (.slice A7 ps.length c7)) := PSt.cut (n' := ps.length + 1) (p := pr a b) HP7.out.1
                    refine ⟨b + 1, _, by omega, by omega, by omega, by go_num, ⟨hP8, HP7.out.2.trans (Fr.cut.trans (Fr.set _))⟩, ⟨?_⟩⟩
                    rw [firstN_succ_none HG.out, if_pos ⟨hab, (by rw [okB, HUS.out, HCC.out]; simp [lastOk]; omega)⟩, HZ.out]
                    exact HRR.out
          · have hand := and64 used (setN (pr a b)) (lt62 HU.out (by omega)) (lt62 (setN_lt HOK.out) (by omega))
            obtain ⟨z, hz⟩ : ∃ z, setN (pr a b) = z := ⟨_, rfl⟩
            have HZ := Aside0.mk hz
            rw [hz] at hand hus
            have hne : (((used &&& z : Nat) : Int) != 0) = true := by rw [bne_iff_ne]; omega
            have HUS := Aside0.mk hus
            clear hz hus
            go_wp2_with (go_at_call 50; refine (set_calls m h9 (pr a b) HOK.out _).mono ?_; rw [HZ.out]; rintro e w2 ⟨rfl, hb2⟩; have hb3 := below_then (below_alloc (Below.refl wr.heap.size wr) _) (below_alloc (Below.refl _ _) _).size hb2; have HP2 : Aside0 (PSt w0 bm g m A l.length c v2 ps w2 ∧ Fr g W vi w2 v2) := ⟨HP1.out.1.next hb3, HP1.out.2.trans (Fr.of_below hb3)⟩; clear hb2 hb3)
            go_roundg (m - (b + 1))
            case measure => omega
            case rel =>
              refine ⟨b + 1, v2, by omega, by omega, by omega, by go_num, HP2, ⟨?_⟩⟩
              rw [firstN_succ_none HG.out, if_neg (fun h => by rw [okB_no (by rw [HZ.out]; exact HUS.out)] at h; cases h.2)]
        · have hbltz : ¬ (b : Int) < (m : Int) := by omega
          have hbe : b = m := by omega
          subst hbe
          go_wp2
          go_roundg (b - (a + 1))
          case measure => omega
          case rel =>
            refine ⟨a + 1, v2, by omega, by omega, by go_num, HP1, ⟨?_⟩⟩
            rw [firstN_succ_none HF.out]
            exact HG.out
    · have hltz : ¬ (a : Int) < (m : Int) := by omega
      have hae : a = m := by omega
      subst hae
      go_wp2
      go_ret
      have hN : S = none := by rw [← HS.out, srch]; exact HF.out
      subst hN
      exact OnPost.mk' rfl rfl HP1.out.1 HP1.out.2
end Go.Proofs.Ytbjpjjokamaliaa.A
