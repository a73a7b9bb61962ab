/- A position, as the program reads it. -/
import Derived.Test.YtbjpjjokamaliaaA2
import Derived.Lib.OthersKept
import Derived.Lib.DecodeN
import Derived.RegionTactic
import Derived.ChangeAlike
import Derived.BigRegion
namespace Go.Proofs.Ytbjpjjokamaliaa.A
open Go.RowKit Go.Proofs.YtbjpjjokamaliaaW.PrintWords Go.Proofs.YtbjpjjokamaliaaW.PrintMore

/-- The spots among the first k that somebody has. -/
def msk (c : Int) (s : ByteArray) : Nat → Nat
  | 0 => 0
  | k + 1 => if bt s k = c then msk c s k ||| 2 ^ k else msk c s k
theorem msk_lt (c : Int) (s : ByteArray) : ∀ k, msk c s k < 2 ^ k
  | 0 => by simp [msk]
  | k + 1 => by
    have h := msk_lt c s k
    have h2 : msk c s k < 2 ^ (k + 1) := Nat.lt_of_lt_of_le h (Nat.pow_le_pow_right (by decide) (by omega))
    rw [msk]
    split
    · exact or_lt h2 (Nat.pow_lt_pow_right (by decide) (by omega))
    · exact h2
theorem msk_tb (c : Int) (s : ByteArray) (i : Nat) : ∀ k, (msk c s k).testBit i = (decide (i < k) && decide (bt s i = c))
  | 0 => by simp [msk]
  | k + 1 => by
    rw [msk]
    split
    · rename_i h
      rw [Nat.testBit_or, tb_two, msk_tb c s i k]
      by_cases e : i = k
      · subst e; simp [h]
      · by_cases h2 : i < k
        · simp [h2, e, show i < k + 1 by omega]
        · simp [h2, e, show ¬ i < k + 1 by omega]
    · rename_i h
      rw [msk_tb c s i k]
      by_cases e : i = k
      · subst e; simp [h]
      · by_cases h2 : i < k
        · simp [h2, show i < k + 1 by omega]
        · simp [h2, show ¬ i < k + 1 by omega]

/-- A letter of a position. -/
def okC (c : Int) : Bool := c == 119 || c == 100 || c == 46
/-- The errors of a field and a position. -/
def okP (m : Int) (l : List Int) (s : ByteArray) : Int :=
  if okF m l ≠ 0 then okF m l else if (s.size : Int) ≠ m then 5 else if (List.range s.size).all (fun i => okC (bt s i)) = true then 0 else 5

theorem okF_m {m : Int} {l : List Int} (h : okF m l = 0) : 1 ≤ m ∧ m ≤ 9 := by
  unfold okF at h
  by_cases h1 : m < 1 ∨ 9 < m
  · rw [if_pos h1] at h; cases h
  · omega
theorem okF_L {m : Int} {l : List Int} (h : okF m l = 0) : okL m.toNat l := by
  unfold okF at h
  split at h
  · cases h
  split at h
  · cases h
  split at h
  · cases h
  · rename_i h3
    intro x hx
    have : (l.any fun x => decide (x < 1) || decide (2 ^ m.toNat ≤ x)) = false := by simpa using h3
    rw [List.any_eq_false] at this
    have := this x hx
    simp at this
    omega

def zF : Value := .agg #[.int .i64 0, .slice none 0 0]
def zP : Value := .agg #[.int .i64 0, .int .i64 0]
/-- The position that is read. -/
def posV (E : Int) (s : ByteArray) : Value := if E = 0 then .agg #[.int .i64 (msk 119 s s.size), .int .i64 (msk 100 s s.size)] else zP

theorem bsize2 {w w' : World} {o1 o2 : Obj} (hb' : Below ((w.alloc o1).alloc o2).heap.size ((w.alloc o1).alloc o2) w') : w.heap.size < w'.heap.size ∧ w.heap.size + 1 < w'.heap.size := by
  have := hb'.size; simp at this; omega
theorem cells2 {w : World} {g : Nat} {a b : Value} {t : TypeId} (h : w.heap[g]? = some (.cells #[a, b] t (0, 0))) :
    w.cell? ⟨g, 0, none⟩ = some a ∧ w.cell? ⟨g, 1, none⟩ = some b ∧ w.frozen? ⟨g, 0, none⟩ = false ∧ w.frozen? ⟨g, 1, none⟩ = false :=
  ⟨blk_cell h 0, blk_cell h 1, blk_frozen h 0, blk_frozen h 1⟩
theorem blks2 {w w' : World} {o1 o2 : Obj} (hb' : Below ((w.alloc o1).alloc o2).heap.size ((w.alloc o1).alloc o2) w') : w'.heap[w.heap.size]? = some o1 ∧ w'.heap[w.heap.size + 1]? = some o2 := by
  constructor
  · rw [hb'.block _ (by simp; omega), Below.heap_alloc _ _ _ (by simp)]
    exact heap_alloc_new w o1
  · rw [hb'.block _ (by simp)]
    have := heap_alloc_new (w.alloc o1) o2
    simpa using this
theorem btrans2 {w w' : World} {o1 o2 : Obj} (hb' : Below ((w.alloc o1).alloc o2).heap.size ((w.alloc o1).alloc o2) w') : Below w.heap.size w w' :=
  below_then (below_alloc (below_alloc (Below.refl _ _) _) _) (by simp; omega) hb'

set_option maxHeartbeats 1600000 in
theorem placed_badF (m : Int) (A : Option Addr) (c : Nat) (l : List Int) (s : ByteArray) (w : World) (hr : Kd.C (Kd.int .i64) w A l.length l) (he : okF m l ≠ 0) :
    Calls Try.prog 43 #[.int .i64 m, .slice A l.length c, .string s] w fun e w' => e = .returned (.tuple #[zF, zP, .int .i64 (okF m l)]) ∧ Below w.heap.size w w' := by
  have HR := Aside0.mk hr
  have HE := Aside0.mk he
  obtain ⟨E, hE⟩ : ∃ E, okF m l = E := ⟨_, rfl⟩
  rw [hE] at he ⊢
  have HV := Aside0.mk hE
  clear hr hE
  go_enter Try.func43, Try.ntmps43
  go_wp2_with (go_at_call 41; refine (read_bad m A c l E _ ?s1 HV.out he).mono ?_; (case s1 => repeat (first | exact HR.out | refine Kd.C_alloc ?_ _)); rintro e w' ⟨rfl, hb'⟩; obtain ⟨hk0, hk1⟩ := blks2 hb'; obtain ⟨hc0, hc1, hf0, hf1⟩ := cells2 hk0; obtain ⟨hc2, hc3, hf2, hf3⟩ := cells2 hk1; obtain ⟨hz0, hz1⟩ := bsize2 hb'; have HB := Aside0.mk (btrans2 hb'))
  refine bodyPost_ret (v := .tuple #[zF, zP, .int .i64 E]) (by simp [results, Try.results43, go_sem, hc0, hc1, hc2, hc3, hz0, hz1, zF, zP]) rfl ⟨rfl, ?_⟩
  repeat (first | exact HB.out | apply below_alloc | refine Below.setCell ?_ (by simp) _)

set_option maxHeartbeats 1600000 in
theorem placed_badS (m : Int) (A : Option Addr) (c : Nat) (l : List Int) (s : ByteArray) (w : World) (hr : Kd.C (Kd.int .i64) w A l.length l) (he : okF m l = 0) (hs : (s.size : Int) ≠ m) :
    Calls Try.prog 43 #[.int .i64 m, .slice A l.length c, .string s] w fun e w' => e = .returned (.tuple #[.agg #[.int .i64 m, .slice A l.length c], zP, .int .i64 5]) ∧ Below w.heap.size w w' := by
  have HR := Aside0.mk hr
  have HE := Aside0.mk he
  have hg : ((s.size : Int) != m) = true := by rw [bne_iff_ne]; exact hs
  clear hr he
  go_enter Try.func43, Try.ntmps43
  go_wp2_with (go_at_call 41; refine (read_ok m A c l _ ?s1 HE.out).mono ?_; (case s1 => repeat (first | exact HR.out | refine Kd.C_alloc ?_ _)); rintro e w' ⟨rfl, hb'⟩; obtain ⟨hk0, hk1⟩ := blks2 hb'; obtain ⟨hc0, hc1, hf0, hf1⟩ := cells2 hk0; obtain ⟨hc2, hc3, hf2, hf3⟩ := cells2 hk1; obtain ⟨hz0, hz1⟩ := bsize2 hb'; have HB := Aside0.mk (btrans2 hb'))
  refine bodyPost_ret (v := .tuple #[.agg #[.int .i64 m, .slice A l.length c], zP, .int .i64 5]) (by simp [results, Try.results43, go_sem, hc0, hc1, hc2, hc3, hz0, hz1, zP]) rfl ⟨rfl, ?_⟩
  repeat (first | exact HB.out | apply below_alloc | refine Below.setCell ?_ (by simp) _)

structure PlR (w : World) (B B1 : Nat) (m : Int) (A : Option Addr) (n c : Nat) (s : ByteArray) (wr : World) (pos : Nat) : Prop where
  below : Below w.heap.size w wr
  b6 : wr.heap[B]? = some (.cells #[.int .i64 0, .slice none 0 0] 61 (0, 0))
  b7 : wr.heap[B + 1]? = some (.cells #[.int .i64 0, .int .i64 0] 63 (0, 0))
  b9 : wr.heap[B1]? = some (.cells #[.int .i64 m, .slice A n c] 61 (0, 0))
  b11 : wr.heap[B1 + 1]? = some (.cells #[.int .i64 (msk 119 s pos), .int .i64 (msk 100 s pos)] 63 (0, 0))
  it : wr.heap[B1 + 2]? = some (.stringIter s pos)
  sz : wr.heap.size = B1 + 3

theorem get_bt (s : ByteArray) (i : Nat) (h : i < s.size) : ((s.get! i).toNat : Int) = bt s i := by
  unfold bt
  rw [dif_pos (by simpa using h)]
  have e : s.get! i = s.data[i]! := rfl
  rw [e, getElem!_pos s.data i h]
  rfl

theorem decode_lo (s : ByteArray) (i : Nat) (h : i < s.size) (hb : bt s i < 128) : ((Utf8.decode s i).1 : Int) = bt s i ∧ (Utf8.decode s i).2 = 1 := by
  have e := get_bt s i h
  rw [Lib.decode_at]
  unfold Lib.decodeN
  rw [if_pos (by omega)]
  exact ⟨e, rfl⟩
theorem decode_hi (s : ByteArray) (i : Nat) (h : i < s.size) (hb : 128 ≤ bt s i) : (128 : Int) ≤ (Utf8.decode s i).1 := by
  have e := get_bt s i h
  rw [Lib.decode_at]
  unfold Lib.decodeN
  rw [if_neg (by omega)]
  repeat' split
  all_goals first | omega | (simp only []; omega)

theorem PlR.step {w : World} {B B1 : Nat} {m : Int} {A : Option Addr} {n c : Nat} {s : ByteArray} {wr : World} {pos : Nat} (h : PlR w B B1 m A n c s wr pos) (hB : w.heap.size = B) (hB1 : B + 2 ≤ B1) (p' : Nat) :
    let W1 := wr.iterAt (B1 + 2) s p'
    Below w.heap.size w W1 ∧ W1.heap[B]? = some (.cells #[.int .i64 0, .slice none 0 0] 61 (0, 0)) ∧ W1.heap[B + 1]? = some (.cells #[.int .i64 0, .int .i64 0] 63 (0, 0)) ∧
    W1.heap[B1]? = some (.cells #[.int .i64 m, .slice A n c] 61 (0, 0)) ∧ W1.heap[B1 + 1]? = some (.cells #[.int .i64 (msk 119 s pos), .int .i64 (msk 100 s pos)] 63 (0, 0)) ∧ W1.heap[B1 + 2]? = some (.stringIter s p') ∧ W1.heap.size = B1 + 3 := by
  refine ⟨Lib.below_iterAt h.below (by omega) _ _, ?_, ?_, ?_, ?_, Lib.iterAt_heap _ _ _ _ _ h.it, by rw [Lib.iterAt_size]; exact h.sz⟩
  · rw [Lib.iterAt_other _ _ _ _ _ (by omega)]; exact h.b6
  · rw [Lib.iterAt_other _ _ _ _ _ (by omega)]; exact h.b7
  · rw [Lib.iterAt_other _ _ _ _ _ (by omega)]; exact h.b9
  · rw [Lib.iterAt_other _ _ _ _ _ (by omega)]; exact h.b11

/-- What is held in the middle of a round. -/
structure PlM (w : World) (B B1 : Nat) (m : Int) (A : Option Addr) (n c : Nat) (s : ByteArray) (W1 : World) (pos p' : Nat) : Prop where
  below : Below w.heap.size w W1
  b6 : W1.heap[B]? = some (.cells #[.int .i64 0, .slice none 0 0] 61 (0, 0))
  b7 : W1.heap[B + 1]? = some (.cells #[.int .i64 0, .int .i64 0] 63 (0, 0))
  b9 : W1.heap[B1]? = some (.cells #[.int .i64 m, .slice A n c] 61 (0, 0))
  b11 : W1.heap[B1 + 1]? = some (.cells #[.int .i64 (msk 119 s pos), .int .i64 (msk 100 s pos)] 63 (0, 0))
  it : W1.heap[B1 + 2]? = some (.stringIter s p')
  sz : W1.heap.size = B1 + 3

theorem or_msk {a pos : Nat} (ha : a < 2 ^ pos) (h : pos ≤ 9) : bits .or .i64 (a : Int) (wrap64 (2 ^ min pos 64)) = ((a ||| 2 ^ pos : Nat) : Int) := by
  rw [Nat.min_eq_left (by omega), wrap64_two (by omega)]
  have e : ((2 : Int) ^ pos) = ((2 ^ pos : Nat) : Int) := by simp
  rw [e, or64 _ _ (lt62 ha (by omega)) (two_lt (by omega))]

theorem PlM.put0 {w : World} {B B1 : Nat} {m : Int} {A : Option Addr} {n c : Nat} {s : ByteArray} {W1 : World} {pos : Nat} (h : PlM w B B1 m A n c s W1 pos (pos + 1)) (hB : w.heap.size = B) (hB1 : B + 2 ≤ B1) (hp : pos ≤ 9) (hc : bt s pos = 119) :
    PlR w B B1 m A n c s (W1.setCell ⟨B1 + 1, 0, none⟩ (.int .i64 (bits .or .i64 (msk 119 s pos) (wrap64 (2 ^ min pos 64))))).drew (pos + 1) := by
  rw [or_msk (msk_lt 119 s pos) hp]
  have e1 : msk 119 s (pos + 1) = msk 119 s pos ||| 2 ^ pos := by rw [msk, if_pos hc]
  have e2 : msk 100 s (pos + 1) = msk 100 s pos := by rw [msk, if_neg (by omega)]
  refine ⟨(h.below.setCell (by show w.heap.size ≤ B1 + 1; omega) _).drew, ?_, ?_, ?_, ?_, ?_, ?_⟩
  · exact blk_far h.b6 (by show B ≠ B1 + 1; omega) _
  · exact blk_far h.b7 (by show B + 1 ≠ B1 + 1; omega) _
  · exact blk_far h.b9 (by show B1 ≠ B1 + 1; omega) _
  · rw [e1, e2]; exact blk_set h.b11 0 _
  · exact (Below.heap_setCell _ _ _ _ (by show B1 + 2 ≠ B1 + 1; omega)).trans h.it
  · show (W1.setCell _ _).heap.size = _
    simp [World.setCell, h.sz]
theorem PlM.put1 {w : World} {B B1 : Nat} {m : Int} {A : Option Addr} {n c : Nat} {s : ByteArray} {W1 : World} {pos : Nat} (h : PlM w B B1 m A n c s W1 pos (pos + 1)) (hB : w.heap.size = B) (hB1 : B + 2 ≤ B1) (hp : pos ≤ 9) (hc : bt s pos = 100) :
    PlR w B B1 m A n c s (W1.setCell ⟨B1 + 1, 1, none⟩ (.int .i64 (bits .or .i64 (msk 100 s pos) (wrap64 (2 ^ min pos 64))))).drew (pos + 1) := by
  rw [or_msk (msk_lt 100 s pos) hp]
  have e1 : msk 100 s (pos + 1) = msk 100 s pos ||| 2 ^ pos := by rw [msk, if_pos hc]
  have e2 : msk 119 s (pos + 1) = msk 119 s pos := by rw [msk, if_neg (by omega)]
  refine ⟨(h.below.setCell (by show w.heap.size ≤ B1 + 1; omega) _).drew, ?_, ?_, ?_, ?_, ?_, ?_⟩
  · exact blk_far h.b6 (by show B ≠ B1 + 1; omega) _
  · exact blk_far h.b7 (by show B + 1 ≠ B1 + 1; omega) _
  · exact blk_far h.b9 (by show B1 ≠ B1 + 1; omega) _
  · rw [e1, e2]; exact blk_set h.b11 1 _
  · exact (Below.heap_setCell _ _ _ _ (by show B1 + 2 ≠ B1 + 1; omega)).trans h.it
  · show (W1.setCell _ _).heap.size = _
    simp [World.setCell, h.sz]
theorem PlM.keep {w : World} {B B1 : Nat} {m : Int} {A : Option Addr} {n c : Nat} {s : ByteArray} {W1 : World} {pos : Nat} (h : PlM w B B1 m A n c s W1 pos (pos + 1)) (h1 : bt s pos ≠ 119) (h2 : bt s pos ≠ 100) :
    PlR w B B1 m A n c s W1 (pos + 1) := by
  have e1 : msk 119 s (pos + 1) = msk 119 s pos := by rw [msk, if_neg h1]
  have e2 : msk 100 s (pos + 1) = msk 100 s pos := by rw [msk, if_neg h2]
  exact ⟨h.below, h.b6, h.b7, h.b9, by rw [e1, e2]; exact h.b11, h.it, h.sz⟩

set_option maxHeartbeats 1600000 in
theorem placed_ok (m : Int) (A : Option Addr) (c : Nat) (l : List Int) (s : ByteArray) (w : World) (hr : Kd.C (Kd.int .i64) w A l.length l) (he : okF m l = 0) (hs : (s.size : Int) = m) (E : Int) (hE : (if (List.range s.size).all (fun i => okC (bt s i)) = true then (0 : Int) else 5) = E) :
    Calls Try.prog 43 #[.int .i64 m, .slice A l.length c, .string s] w fun e w' => e = .returned (.tuple #[.agg #[.int .i64 m, .slice A l.length c], posV E s, .int .i64 E]) ∧ Below w.heap.size w w' := by
  have HR := Aside0.mk hr
  have HE := Aside0.mk he
  have HV := Aside0.mk hE
  have HM := Aside0.mk (okF_m he)
  subst hs
  have hg : ((s.size : Int) != (s.size : Int)) = false := by simp
  clear hr he hE
  go_enter Try.func43, Try.ntmps43
  go_wp2_with (go_at_call 41; refine (read_ok s.size A c l _ ?s1 HE.out).mono ?_; (case s1 => repeat (first | exact HR.out | refine Kd.C_alloc ?_ _)); rintro e w' ⟨rfl, hb'⟩; obtain ⟨hk0, hk1⟩ := blks2 hb'; obtain ⟨hc0, hc1, hf0, hf1⟩ := cells2 hk0; obtain ⟨hc2, hc3, hf2, hf3⟩ := cells2 hk1; obtain ⟨hz0, hz1⟩ := bsize2 hb'; have HB := Aside0.mk (btrans2 hb'))
  have HZ := Aside0.mk hz1
  have hP : PlR w w.heap.size w'.heap.size s.size A l.length c s (((w'.alloc (.cells #[.int .i64 s.size, .slice A l.length c] 61)).alloc (.cells #[.int .i64 0, .int .i64 0] 63)).alloc (.stringIter s 0)) 0 := by
    refine ⟨below_alloc (below_alloc (below_alloc HB.out _) _) _, ?_, ?_, ?_, ?_, ?_, by simp⟩
    · rw [Below.heap_alloc _ _ _ (by simp; omega), Below.heap_alloc _ _ _ (by simp; omega), Below.heap_alloc _ _ _ (by omega)]; exact hk0
    · rw [Below.heap_alloc _ _ _ (by simp; omega), Below.heap_alloc _ _ _ (by simp; omega), Below.heap_alloc _ _ _ (by omega)]; exact hk1
    · rw [Below.heap_alloc _ _ _ (by simp; omega), Below.heap_alloc _ _ _ (by simp)]; exact heap_alloc_new w' _
    · rw [Below.heap_alloc _ _ _ (by simp)]; have := heap_alloc_new (w'.alloc (.cells #[.int .i64 s.size, .slice A l.length c] 61)) (.cells #[.int .i64 0, .int .i64 0] 63); simpa [msk] using this
    · have := heap_alloc_new ((w'.alloc (.cells #[.int .i64 s.size, .slice A l.length c] 61)).alloc (.cells #[.int .i64 0, .int .i64 0] 63)) (.stringIter s 0); simpa using this
  have HP := Aside0.mk hP
  clear hP hk0 hk1 hc0 hc1 hf0 hf1 hc2 hc3 hf2 hf3 hb'
  go_loopg [12, 13] s.size (fun gg _ _ wr => ∃ pos : Nat, pos ≤ s.size ∧ s.size - pos ≤ gg ∧ Aside0 (PlR w w.heap.size w'.heap.size s.size A l.length c s wr pos) ∧ Aside0 (∀ i, i < pos → okC (bt s i) = true))
  case atStart => exact ⟨0, Nat.zero_le _, by omega, HP, ⟨fun i hi => absurd hi (Nat.not_lt_zero _)⟩⟩
  case round =>
    obtain ⟨pos, hpos, hgg, HP1, HO⟩ := hrel
    clear HP HB
    generalize w'.heap.size = B1 at *
    have HS := HP1.out.step rfl (by have := HZ.out; omega)
    clear hz0 hz1
    by_cases hp : pos < s.size
    · have hnx : ∀ ty, (Instr.next (.pointer (some ⟨B1 + 2, 0, none⟩)) true ty).run Try.prog wr = _ := fun ty => Lib.run_next_any_at wr (B1 + 2) s pos ty HP1.out.it hp
      have HS1 := HS (pos + (Utf8.decode s pos).2)
      clear HS
      obtain ⟨W1, hW1⟩ : ∃ W1, W1 = wr.iterAt (B1 + 2) s (pos + (Utf8.decode s pos).2) := ⟨_, rfl⟩
      rw [← hW1] at hnx HS1
      obtain ⟨hbw, hk6, hk7, hk9, hk11, hit, hsz⟩ := HS1
      obtain ⟨c60, c61, f60, f61⟩ := cells2 hk6
      obtain ⟨c70, c71, f70, f71⟩ := cells2 hk7
      obtain ⟨c90, c91, f90, f91⟩ := cells2 hk9
      obtain ⟨c110, c111, f110, f111⟩ := cells2 hk11
      have HK : Aside0 (PlM w w.heap.size B1 s.size A l.length c s W1 pos (pos + (Utf8.decode s pos).2)) := ⟨⟨hbw, hk6, hk7, hk9, hk11, hit, hsz⟩⟩
      clear hbw hk6 hk7 hk9 hk11 hit hsz hW1
      by_cases h119 : bt s pos = 119
      · have hd := decode_lo s pos hp (by omega)
        rw [h119] at hd
        rw [hd.1] at hnx
        rw [hd.2] at HK
        have HC := Aside0.mk h119
        clear hd h119
        go_wp2
        go_region
        go_wp2
        go_roundg (s.size - (pos + 1))
        case measure => omega
        case rel =>
          refine ⟨pos + 1, by omega, by omega, ⟨HK.out.put0 rfl (by have := HZ.out; omega) (by have := HM.out; omega) HC.out⟩, ⟨fun i hi => ?_⟩⟩
          by_cases e : i = pos
          · subst e; rw [HC.out]; rfl
          · exact HO.out i (by omega)
      by_cases h100 : bt s pos = 100
      · have hd := decode_lo s pos hp (by omega)
        rw [h100] at hd
        rw [hd.1] at hnx
        rw [hd.2] at HK
        have HC := Aside0.mk h100
        clear hd h119 h100
        go_wp2
        go_region
        go_wp2
        go_roundg (s.size - (pos + 1))
        case measure => omega
        case rel =>
          refine ⟨pos + 1, by omega, by omega, ⟨HK.out.put1 rfl (by have := HZ.out; omega) (by have := HM.out; omega) HC.out⟩, ⟨fun i hi => ?_⟩⟩
          by_cases e : i = pos
          · subst e; rw [HC.out]; rfl
          · exact HO.out i (by omega)
      by_cases h46 : bt s pos = 46
      · have hd := decode_lo s pos hp (by omega)
        rw [h46] at hd
        rw [hd.1] at hnx
        rw [hd.2] at HK
        have HC := Aside0.mk h46
        clear hd h119 h100 h46
        go_wp2
        go_roundg (s.size - (pos + 1))
        case measure => omega
        case rel =>
          refine ⟨pos + 1, by omega, by omega, ⟨HK.out.keep (by rw [HC.out]; decide) (by rw [HC.out]; decide)⟩, ⟨fun i hi => ?_⟩⟩
          by_cases e : i = pos
          · subst e; rw [HC.out]; rfl
          · exact HO.out i (by omega)
      · obtain ⟨R, hR⟩ : ∃ R : Int, ((Utf8.decode s pos).1 : Int) = R := ⟨_, rfl⟩
        rw [hR] at hnx
        have hq : R ≠ 119 ∧ R ≠ 100 ∧ R ≠ 46 := by
          by_cases h : bt s pos < 128
          · have := (decode_lo s pos hp h).1; omega
          · have := decode_hi s pos hp (by omega); omega
        obtain ⟨q1, q2, q3⟩ := hq
        have g1 : (R == 119) = false := beq_eq_false_iff_ne.2 q1
        have g2 : (R == 100) = false := beq_eq_false_iff_ne.2 q2
        have g3 : (R == 46) = false := beq_eq_false_iff_ne.2 q3
        have hall : ((List.range s.size).all fun i => okC (bt s i)) = false := by
          rw [List.all_eq_false]
          exact ⟨pos, List.mem_range.2 hp, by simp [okC, h119, h100, h46]⟩
        have HE5 : Aside0 (E = 5) := ⟨by rw [← HV.out, hall]; rfl⟩
        clear hall q1 q2 q3 hR h119 h100 h46
        have hlt : w.heap.size + 1 < B1 := HZ.out
        go_wp2
        refine bodyPost_ret (v := .tuple #[.agg #[.int .i64 s.size, .slice A l.length c], zP, .int .i64 5]) (by simp [results, Try.results43, go_sem, c60, c61, c70, c71, zP]) rfl ⟨?_, ?_⟩
        · rw [HE5.out]; rfl
        · exact Below.setCell (Below.setCell (Below.setCell (Below.setCell HK.out.below (by simp) _) (by simp) _) (by simp) _) (by simp) _
    · have hnx : ∀ ty, (Instr.next (.pointer (some ⟨B1 + 2, 0, none⟩)) true ty).run Try.prog wr = .ok (.tuple #[.bool false]) wr := fun ty => Lib.run_next_end_at wr (B1 + 2) s pos ty HP1.out.it hp
      have hall : ((List.range s.size).all fun i => okC (bt s i)) = true := by
        rw [List.all_eq_true]
        intro i hi
        exact HO.out i (by have := List.mem_range.1 hi; omega)
      have HE0 : Aside0 (E = 0) := ⟨by rw [← HV.out, hall]; rfl⟩
      have hpe : pos = s.size := by omega
      subst hpe
      obtain ⟨c60, c61, f60, f61⟩ := cells2 HP1.out.b6
      obtain ⟨c70, c71, f70, f71⟩ := cells2 HP1.out.b7
      obtain ⟨c90, c91, f90, f91⟩ := cells2 HP1.out.b9
      obtain ⟨c110, c111, f110, f111⟩ := cells2 HP1.out.b11
      have hlt : w.heap.size + 1 < B1 := HZ.out
      have n1 : ¬ (w.heap.size = B1) := by omega
      have n2 : ¬ (w.heap.size = B1 + 1) := by omega
      have n3 : ¬ (w.heap.size + 1 = B1) := by omega
      have n4 : ¬ (w.heap.size = B1) := by omega
      have n5 : ¬ (B1 = w.heap.size) := by omega
      have n6 : ¬ (B1 + 1 = w.heap.size) := by omega
      have n7 : ¬ (B1 = w.heap.size + 1) := by omega
      clear hall hp
      go_wp2
      go_region
      go_wp2
      refine bodyPost_ret (v := .tuple #[.agg #[.int .i64 s.size, .slice A l.length c], .agg #[.int .i64 (msk 119 s s.size), .int .i64 (msk 100 s s.size)], .int .i64 0]) (by simp [results, Try.results43, go_sem, c60, c61, c70, c71]) rfl ⟨?_, ?_⟩
      · rw [HE0.out]; rfl
      · exact (Below.setCell (Below.setCell (Below.setCell (Below.setCell HP1.out.below (by simp) _) (by simp) _) (by simp) _) (by simp) _).drew

theorem placed_err (m : Int) (A : Option Addr) (c : Nat) (l : List Int) (s : ByteArray) (w : World) (hr : Kd.C (Kd.int .i64) w A l.length l) (he : okP m l s ≠ 0) :
    Calls Try.prog 43 #[.int .i64 m, .slice A l.length c, .string s] w fun e w' => (∃ x A2 n2 c2, e = .returned (.tuple #[.agg #[.int .i64 x, .slice A2 n2 c2], .agg #[.int .i64 0, .int .i64 0], .int .i64 (okP m l s)])) ∧ Below w.heap.size w w' := by
  unfold okP at he ⊢
  by_cases hF : okF m l ≠ 0
  · rw [if_pos hF] at he ⊢
    exact (placed_badF m A c l s w hr hF).mono fun e w' ⟨h1, h2⟩ => ⟨⟨0, none, 0, 0, h1⟩, h2⟩
  · rw [if_neg hF] at he ⊢
    have hF0 : okF m l = 0 := by simpa using hF
    by_cases hs : (s.size : Int) ≠ m
    · rw [if_pos hs] at he ⊢
      exact (placed_badS m A c l s w hr hF0 hs).mono fun e w' ⟨h1, h2⟩ => ⟨⟨m, A, l.length, c, h1⟩, h2⟩
    · rw [if_neg hs] at he ⊢
      refine (placed_ok m A c l s w hr hF0 (by simpa using hs) _ rfl).mono fun e w' ⟨h1, h2⟩ => ⟨⟨m, A, l.length, c, ?_⟩, h2⟩
      rw [h1]
      unfold posV
      rw [if_neg he]
      rfl

theorem placed_good (m : Int) (A : Option Addr) (c : Nat) (l : List Int) (s : ByteArray) (w : World) (hr : Kd.C (Kd.int .i64) w A l.length l) (he : okP m l s = 0) :
    Calls Try.prog 43 #[.int .i64 m, .slice A l.length c, .string s] w fun e w' => e = .returned (.tuple #[.agg #[.int .i64 m, .slice A l.length c], .agg #[.int .i64 (msk 119 s s.size), .int .i64 (msk 100 s s.size)], .int .i64 0]) ∧ Below w.heap.size w w' := by
  unfold okP at he
  by_cases hF : okF m l ≠ 0
  · rw [if_pos hF] at he; exact absurd he hF
  · rw [if_neg hF] at he
    have hF0 : okF m l = 0 := by simpa using hF
    by_cases hs : (s.size : Int) ≠ m
    · rw [if_pos hs] at he; cases he
    · rw [if_neg hs] at he
      exact placed_ok m A c l s w hr hF0 (by simpa using hs) 0 he
end Go.Proofs.Ytbjpjjokamaliaa.A
