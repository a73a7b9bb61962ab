/- placed: a position with a spot taken by somebody (a copy of the text's bytes is written). -/
import Derived.Test.YtbjpjjokamaliaaB6
import Derived.Lib.ConvBytes
import Derived.Laws.BytesArg
namespace Go.Proofs.Ytbjpjjokamaliaa.A
open Go.RowKit Go.Proofs.YtbjpjjokamaliaaW.PrintWords Go.Proofs.YtbjpjjokamaliaaW.PrintMore

/-- A text with a byte changed, if there is such a byte. -/
def placedS (s : ByteArray) (i c : Int) : ByteArray := if 0 ≤ i ∧ i < s.size then strOfNums ((bytesOf s).set i.toNat c) else strOfNums (bytesOf s)
def drovewaylaw04_placed.f (a0 : ByteArray) (a1 : Int) (a2 : Int) : Option ByteArray := some (placedS a0 a1 a2)

theorem bytesWorld_frozen (w : World) (e : TypeId) (s : ByteArray) (k : Nat) (hk : k < s.size) : (Lib.bytesWorld w e s).frozen? ⟨w.heap.size, k, none⟩ = false := by
  have : s.size ≤ (Lib.bytesCells w e s).size := by
    simp [Lib.bytesCells]
  simp [World.frozen?, Lib.bytesWorld_at_new]
  omega
theorem bytesWorld_cells (w : World) (e : TypeId) (s : ByteArray) (k : Nat) (hk : k < s.size) : (Lib.bytesWorld w e s).cell? ⟨w.heap.size, k, none⟩ = some (.int .u8 ((bytesOf s).getD k 0)) := by
  rw [Lib.bytesWorld_cell w e s k hk]
  have h' : k < s.data.toList.length := by rw [data_length]; exact hk
  simp [bytesOf, List.getD_eq_getElem?_getD, List.getElem?_eq_getElem h']

set_option maxRecDepth 100000 in
set_option maxHeartbeats 800000 in
theorem drovewaylaw04_placed.calls (a0 : ByteArray) (a1 : Int) (a2 : Int) (r : ByteArray) (w : World) (h : drovewaylaw04_placed.f a0 a1 a2 = some r) :
    Calls Try.prog 15 #[.string a0, .int .i64 a1, .int .u8 a2] w fun e w' => e = .returned (.string r) ∧ Below w.heap.size w w' := by
  unfold drovewaylaw04_placed.f at h
  cases h
  have hbel : Below w.heap.size w (Lib.bytesWorld w 5 a0) := bytes_below (Below.refl _ _) (Nat.le_refl _) _ _
  have hlen := bytesOf_length a0
  have hcv : (convert 9 43 (.string a0)).run Try.prog w = .ok (.slice (some ⟨w.heap.size, 0, none⟩) a0.size (grownCap w a0.size 0 5)) (Lib.bytesWorld w 5 a0) := print_bytes (P := Try.prog) 9 43 5 Try.underlying9 Try.underlying43 Try.underlying5 a0 w
  have hback0 := run_convert_bytes_arg (P := Try.prog) (Lib.bytesWorld w 5 a0) 43 5 Try.underlying43 Try.underlying5 w.heap.size 0 a0.size (grownCap w a0.size 0 5) (bytesOf a0) hlen (fun i hi => by rw [Nat.zero_add]; exact bytesWorld_cells w 5 a0 i hi) 9 Try.underlying9
  by_cases h0 : 0 ≤ a1
  · by_cases h1 : a1 < (a0.size : Int)
    · obtain ⟨k, rfl⟩ := Int.eq_ofNat_of_zero_le h0
      have hk : k < a0.size := by omega
      have hf := bytesWorld_frozen w 5 a0 k hk
      have hc := bytesWorld_cells w 5 a0 k hk
      have hback := run_convert_bytes_arg (P := Try.prog) ((Lib.bytesWorld w 5 a0).setCell ⟨w.heap.size, k, none⟩ (.int .u8 a2)) 43 5 Try.underlying43 Try.underlying5 w.heap.size 0 a0.size (grownCap w a0.size 0 5) ((bytesOf a0).set k a2) (by simpa using hlen) (fun i hi => by
        rw [Nat.zero_add]
        by_cases e : k = i
        · subst e
          rw [World.cell?_setCell_same' _ _ _ (by rw [hc]; rfl)]
          simp [List.getD_eq_getElem?_getD, hlen, hk]
        · rw [World.cell?_setCell_other _ _ _ _ (by intro h; injection h with h1 h2; exact e h2), bytesWorld_cells w 5 a0 i hi]
          simp [List.getD_eq_getElem?_getD, List.getElem?_set_ne e]) 9 Try.underlying9
      have hbel2 : Below w.heap.size w ((Lib.bytesWorld w 5 a0).setCell ⟨w.heap.size, k, none⟩ (.int .u8 a2)) := hbel.setCell (Nat.le_refl _) _
      have hp : placedS a0 (k : Int) a2 = strOfNums ((bytesOf a0).set k a2) := by
        unfold placedS
        rw [if_pos ⟨h0, h1⟩]
        rfl
      rw [hp]
      generalize strOfNums ((bytesOf a0).set k a2) = res at hback ⊢
      clear hback0 hp hbel
      generalize Lib.bytesWorld w 5 a0 = W1 at *
      go_enter Try.func15, Try.ntmps15
      go_wp2
      exact bodyPost_ret (v := .string res) (by simp [results, Try.results15, go_sem]) rfl ⟨rfl, hbel2⟩
    · have hp : placedS a0 a1 a2 = strOfNums (bytesOf a0) := by
        unfold placedS
        rw [if_neg (by omega)]
      rw [hp]
      go_enter Try.func15, Try.ntmps15
      go_wp2
      exact bodyPost_ret (v := .string (strOfNums (bytesOf a0))) (by simp [results, Try.results15, go_sem]) rfl ⟨rfl, hbel⟩
  · have hp : placedS a0 a1 a2 = strOfNums (bytesOf a0) := by
      unfold placedS
      rw [if_neg (by omega)]
    rw [hp]
    go_enter Try.func15, Try.ntmps15
    go_wp2
    exact bodyPost_ret (v := .string (strOfNums (bytesOf a0))) (by simp [results, Try.results15, go_sem]) rfl ⟨rfl, hbel⟩
end Go.Proofs.Ytbjpjjokamaliaa.A
