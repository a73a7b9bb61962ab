/- Careful, as it is called. -/
import Derived.Test.YtbjpjjokamaliaaB2
namespace Go.Proofs.Ytbjpjjokamaliaa.A
open Go.RowKit Go.Proofs.YtbjpjjokamaliaaW.PrintWords Go.Proofs.YtbjpjjokamaliaaW.PrintMore

/-- The best spot and its danger, after the first k spots. -/
def carL (l : List Int) (m p d : Nat) : Nat → Int × Int
  | 0 => (-1, 0)
  | k + 1 => if fr p.testBit d.testBit k = true ∧ ((carL l m p d k).1 < 0 ∨ dangL m p (d ||| 2 ^ k) l < (carL l m p d k).2) then ((k : Int), dangL m p (d ||| 2 ^ k) l) else carL l m p d k
def carS (l : List Int) (s : ByteArray) : Int := (carL l s.size (msk 119 s s.size) (msk 100 s s.size) s.size).1
def ambush_Careful.f (a0 : Int) (l1 : List Int) (a2 : ByteArray) : Option (Int × Int) :=
  some (if okP a0 l1 a2 = 0 then (if carS l1 a2 < 0 then (0, 9) else (carS l1 a2, 0)) else (0, okP a0 l1 a2))

set_option maxRecDepth 100000 in
set_option maxHeartbeats 800000 in
theorem Careful_err (m : Int) (A : Option Addr) (c : Nat) (l : List Int) (s : ByteArray) (w : World) (hr : Kd.C (Kd.int .i64) w A l.length l) (he : okP m l s ≠ 0) :
    Calls Try.prog 23 #[.int .i64 m, .slice A l.length c, .string s] w fun e w' => e = .returned (.tuple #[.int .i64 0, .int .i64 (okP m l s)]) ∧ Below w.heap.size w w' := by
  have HR := Aside0.mk hr
  have HE := Aside0.mk he
  obtain ⟨E, hE⟩ : ∃ E, okP m l s = E := ⟨_, rfl⟩
  rw [hE] at he ⊢
  have HV := Aside0.mk hE
  have hg : (E != 0) = true := by rw [bne_iff_ne]; exact he
  clear hr hE he
  go_enter Try.func23, Try.ntmps23
  go_wp2_with (go_at_call 43; refine (placed_err m A c l s _ HR.out HE.out).mono ?_; rw [HV.out]; rintro e w' ⟨⟨x, A2, n2, c2, rfl⟩, hb'⟩; have HB := Aside0.mk hb'; clear hb')
  go_ret2
  exact ⟨rfl, below_alloc (below_alloc HB.out _) _⟩

theorem free_bit0 {m p d F k : Nat} (hF : less (2 ^ m - 1) (p ||| d) = F) (hk : k < m) (hm : m ≤ 9) : (bits .and .i64 ((F : Int) / 2 ^ k) 1 == 0) = !fr p.testBit d.testBit k := by
  have hlt : F < 2 ^ 62 := by
    rw [← hF]
    exact lt62 (less_lt (Nat.sub_lt (Nat.two_pow_pos m) (by decide))) (by omega)
  rw [bit_ask hlt, ← tb_free hk, hF]
  cases F.testBit k <;> rfl

/-- What is held while the spots are gone through. -/
def CarI (m : Nat) (A : Option Addr) (n c : Nat) (p d : Nat) (w : World) (g : Nat) (W : World) : Prop :=
  W.cell? ⟨g, 0, none⟩ = some (.int .i64 m) ∧ W.cell? ⟨g, 1, none⟩ = some (.slice A n c) ∧ W.cell? ⟨g + 1, 0, none⟩ = some (.int .i64 p) ∧ W.cell? ⟨g + 1, 1, none⟩ = some (.int .i64 d) ∧ Aside0 (Below w.heap.size w W)
theorem car_next {m : Nat} {A : Option Addr} {n c p d : Nat} {w : World} {g : Nat} {W W' : World}
    (h : W.cell? ⟨g, 0, none⟩ = some (.int .i64 m) ∧ W.cell? ⟨g, 1, none⟩ = some (.slice A n c) ∧ W.cell? ⟨g + 1, 0, none⟩ = some (.int .i64 p) ∧ W.cell? ⟨g + 1, 1, none⟩ = some (.int .i64 d) ∧ Aside0 (Below w.heap.size w W))
    (hb : Below W.heap.size W W') :
    W'.cell? ⟨g, 0, none⟩ = some (.int .i64 m) ∧ W'.cell? ⟨g, 1, none⟩ = some (.slice A n c) ∧ W'.cell? ⟨g + 1, 0, none⟩ = some (.int .i64 p) ∧ W'.cell? ⟨g + 1, 1, none⟩ = some (.int .i64 d) ∧ Aside0 (Below w.heap.size w W') := by
  obtain ⟨h1, h2, h3, h4, ⟨h5⟩⟩ := h
  exact ⟨pw_cell_below hb h1, pw_cell_below hb h2, pw_cell_below hb h3, pw_cell_below hb h4, ⟨below_then h5 h5.size hb⟩⟩

set_option maxRecDepth 100000 in
set_option maxHeartbeats 1600000 in
theorem Careful_good (m : Nat) (A : Option Addr) (c : Nat) (l : List Int) (s : ByteArray) (w : World) (hr : Kd.C (Kd.int .i64) w A l.length l) (hs : s.size = m) (hP : okP m l s = 0) (r1 r2 : Int) (hres : (if carS l s < 0 then ((0 : Int), (9 : Int)) else (carS l s, 0)) = (r1, r2)) :
    Calls Try.prog 23 #[.int .i64 m, .slice A l.length c, .string s] w fun e w' => e = .returned (.tuple #[.int .i64 r1, .int .i64 r2]) ∧ Below w.heap.size w w' := by
  have HR := Aside0.mk hr
  have HE := Aside0.mk hP
  obtain ⟨hF, -⟩ := okP_parts hP
  have HF := Aside0.mk hF
  have h9 : m ≤ 9 := by have := okF_m hF; omega
  have hp := msk_lt 119 s s.size
  have hd := msk_lt 100 s s.size
  unfold carS at hres
  obtain ⟨p, hpe⟩ : ∃ p, msk 119 s s.size = p := ⟨_, rfl⟩
  obtain ⟨d, hde⟩ : ∃ d, msk 100 s s.size = d := ⟨_, rfl⟩
  have HPE := Aside0.mk hpe
  have HDE := Aside0.mk hde
  rw [hpe] at hp hres
  rw [hde] at hd hres
  rw [hs] at hp hd hres
  have HP := Aside0.mk hp
  have HD := Aside0.mk hd
  have HRES := Aside0.mk hres
  clear hr hP hF hs hp hd hpe hde hres
  go_enter Try.func23, Try.ntmps23
  go_wp2_with (go_at_call 43; refine (placed_good m A c l s _ HR.out HE.out).mono ?_; rw [HPE.out, HDE.out]; rintro e w' ⟨rfl, hb'⟩; have HB := Aside0.mk hb'; clear hb')
  have HI : Aside0 (CarI m A l.length c p d w w'.heap.size ((w'.alloc (.cells #[.int .i64 m, .slice A l.length c] 61)).alloc (.cells #[.int .i64 p, .int .i64 d] 63))) := by
    have hbk := blks2 (o1 := .cells #[.int .i64 m, .slice A l.length c] 61) (o2 := .cells #[.int .i64 p, .int .i64 d] 63) (w := w') (Below.refl _ _)
    exact ⟨(cells2 hbk.1).1, (cells2 hbk.1).2.1, (cells2 hbk.2).1, (cells2 hbk.2).2.1, ⟨below_alloc (below_alloc HB.out _) _⟩⟩
  generalize hg : w'.heap.size = g at HI
  go_loopg [11, 12, 27] m (fun gg v11 v12 v27 wr => ∃ k : Nat, k ≤ m ∧ m - k ≤ gg ∧ v27 = .int .i64 k ∧ v11 = .int .i64 (carL l m p d k).1 ∧ v12 = .int .i64 (carL l m p d k).2 ∧ Aside0 (CarI m A l.length c p d w g wr))
  case atStart => exact ⟨0, Nat.zero_le _, by omega, rfl, rfl, rfl, HI⟩
  case round =>
    clear HI HB
    clear hg
    obtain ⟨k, hk, hgg, rfl, rfl, rfl, HI⟩ := hrel
    obtain ⟨c0, c1, c2, c3, -⟩ := HI.out
    obtain ⟨F, hF⟩ : ∃ F, less (2 ^ m - 1) (p ||| d) = F := ⟨_, rfl⟩
    have HFF := Aside0.mk hF
    clear hF
    by_cases hlt : k < m
    · have hltz : (k : Int) < (m : Int) := by omega
      cases hfb : fr p.testBit d.testBit k with
      | false =>
        have HFB := Aside0.mk hfb
        have hgd := free_bit0 HFF.out hlt h9
        rw [hfb] at hgd
        clear hfb
        go_wp2_with (go_at_call 46; refine (free_calls m p d h9 HP.out HD.out A l.length c _).mono ?_; rw [HFF.out]; rintro e w2 ⟨rfl, hb2⟩; have HI2 := Aside0.mk (car_next HI.out hb2); clear hb2)
        go_roundg (m - (k + 1))
        case measure => omega
        case rel =>
          refine ⟨k + 1, by omega, by omega, by go_num, ?_, ?_, HI2⟩ <;> (rw [carL, if_neg (fun h => by rw [HFB.out] at h; cases h.1)])
      | true =>
        have HFB := Aside0.mk hfb
        have hgd := free_bit0 HFF.out hlt h9
        rw [hfb] at hgd
        clear hfb
        go_wp2_with (go_at_call 46; refine (free_calls m p d h9 HP.out HD.out A l.length c _).mono ?_; rw [HFF.out]; rintro e w2 ⟨rfl, hb2⟩; have HI2 := Aside0.mk (car_next HI.out hb2); clear hb2 c0 c1 c2 c3; obtain ⟨c0, c1, c2, c3, -⟩ := HI2.out)
        go_region_held3 (fun w' => w'.cell? ⟨g, 0, none⟩ = some (.int .i64 m) ∧ w'.cell? ⟨g, 1, none⟩ = some (.slice A l.length c) ∧ w'.cell? ⟨g + 1, 0, none⟩ = some (.int .i64 p) ∧ w'.cell? ⟨g + 1, 1, none⟩ = some (.int .i64 d) ∧ Aside0 (Below w.heap.size w w')) (first | exact car_next HI2.out (below_drew (Below.refl _ _)) | exact car_next (by assumption) hb3 | exact car_next (by assumption) (Below.refl _ _)) (first | (go_at_call 47; refine (after_d p d k (pow9 HD.out h9) (by omega) _).mono ?_; rintro e w3 ⟨rfl, hb3⟩) | (go_at_call 44; refine (danger_calls m p (d ||| 2 ^ k) h9 HP.out (or_lt HD.out (Nat.pow_lt_pow_right (by decide) hlt)) l (okF_L HF.out) (okF_len HF.out) A c _ (Kd.C_below HR.out (by assumption : _ ∧ _ ∧ _ ∧ _ ∧ Aside0 (Below w.heap.size w _)).2.2.2.2.out)).mono ?_; rintro e w3 ⟨rfl, hb3⟩))
        all_goals
          have HH := Aside0.mk (show _ ∧ _ ∧ _ ∧ _ ∧ Aside0 (Below w.heap.size w w3) by assumption)
          clear c0 c1 c2 c3
          by_cases hb : (carL l m p d k).1 < 0
          · go_wp2_with fail
            go_roundg (m - (k + 1))
            case measure => omega
            case rel =>
              refine ⟨k + 1, by omega, by omega, by go_num, ?_, ?_, HH⟩ <;> (rw [carL, if_pos ⟨HFB.out, .inl hb⟩])
          · have HNB := Aside0.mk hb
            by_cases hx : dangL m p (d ||| 2 ^ k) l < (carL l m p d k).2
            · go_wp2_with fail
              go_roundg (m - (k + 1))
              case measure => omega
              case rel =>
                refine ⟨k + 1, by omega, by omega, by go_num, ?_, ?_, HH⟩ <;> (rw [carL, if_pos ⟨HFB.out, .inr hx⟩])
            · have HNX := Aside0.mk hx
              go_wp2_with fail
              go_roundg (m - (k + 1))
              case measure => omega
              case rel =>
                refine ⟨k + 1, by omega, by omega, by go_num, ?_, ?_, HH⟩ <;> (rw [carL, if_neg (fun h => by have := HNB.out; have := HNX.out; omega)])
    · have hltz : ¬ (k : Int) < (m : Int) := by omega
      have HK := Aside0.mk (show k = m by omega)
      clear hlt
      have hz := HRES.out
      have hkm := HK.out
      have hc : carL l m p d m = carL l m p d k := by rw [hkm]
      rw [hc] at hz
      clear hkm hc
      by_cases hb : (carL l m p d k).1 < 0
      · rw [if_pos hb] at hz
        cases hz
        go_wp2_with fail
        go_ret2
        exact ⟨rfl, HI.out.2.2.2.2.out⟩
      · rw [if_neg hb] at hz
        cases hz
        go_wp2_with fail
        go_ret2
        exact ⟨rfl, HI.out.2.2.2.2.out⟩
theorem ambush_Careful.calls (a0 : Int) (A1 : Option Addr) (c1 : Nat) (l1 : List Int) (a2 : ByteArray) (r1 : Int) (r2 : Int) (w : World) (hr1 : Kd.C (Kd.int .i64) w A1 l1.length l1) (_hc1 : l1.length ≤ c1) (h : ambush_Careful.f a0 l1 a2 = some (r1, r2)) :
    Calls Try.prog 23 #[.int .i64 a0, .slice A1 l1.length c1, .string a2] w fun e w' => e = .returned (.tuple #[.int .i64 r1, .int .i64 r2]) ∧ Below w.heap.size w w' := by
  unfold ambush_Careful.f at h
  by_cases h0 : okP a0 l1 a2 = 0
  · rw [if_pos h0] at h
    obtain ⟨_, hs⟩ := okP_parts h0
    subst hs
    exact Careful_good _ A1 c1 l1 a2 w hr1 rfl h0 r1 r2 (by simpa using h)
  · rw [if_neg h0] at h
    cases h
    exact Careful_err a0 A1 c1 l1 a2 w hr1 h0
end Go.Proofs.Ytbjpjjokamaliaa.A
