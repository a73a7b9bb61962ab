/- Who wins: the program's recursion, which remembers turns, against the plain game. -/
import Derived.Test.YtbjpjjokamaliaaA5
import Derived.Test.YtbjpjjokamaliaaM0
import Derived.Test.YtbjpjjokamaliaaWEqStruct
namespace Go.Proofs.Ytbjpjjokamaliaa.A
open Go.RowKit Go.Proofs.YtbjpjjokamaliaaW.PrintWords Go.Proofs.YtbjpjjokamaliaaW.PrintMore

theorem eqA63 (d : Nat) (w : World) (x0 y0 : Int) (x1 y1 : Int) :
    (Op.equalIn (d + 2) 63 (.agg #[.int .i64 x0, .int .i64 x1]) (.agg #[.int .i64 y0, .int .i64 y1])).run Try.prog w = .ok (x0 == y0 && (x1 == y1)) w := by
  refine eqA_of Try.underlying63 (by kernel_rfl) ?_
  refine eqf_cons (by rfl) (by go_simp; rfl) (by go_simp; rfl) (by go_simp) ?_
  exact eqf_last (by rfl) (by go_simp; rfl) (by go_simp; rfl) (by go_simp)
theorem eqA65 (d : Nat) (w : World) (x0 y0 : Int) (x1 y1 : Int) (x2 y2 : Int) :
    (Op.equalIn (d + 3) 65 (.agg #[.int .i64 x0, .int .i64 x1, .int .i64 x2]) (.agg #[.int .i64 y0, .int .i64 y1, .int .i64 y2])).run Try.prog w = .ok ((x0 == y0 && (x1 == y1)) && (x2 == y2)) w := by
  refine eqA_of Try.underlying65 (by kernel_rfl) ?_
  refine eqf_cons (by rfl) (by go_simp) (by go_simp) (eqA63 (d + 0) w _ _ _ _) ?_
  exact eqf_last (by rfl) (by go_simp; rfl) (by go_simp; rfl) (by go_simp)

/-- A turn, as a key. -/
def encT (k : Int × Int × Int) : Value := .agg #[.int .i64 k.1, .int .i64 k.2.1, .int .i64 k.2.2]

theorem check_int (e : Bool) (n : Nat) (t : TypeId) (k : IntKind) (x : Int) (w : World) (ht : Try.prog.underlying t = some (.int k)) : (Instr.checkKey e (n + 1) t (.int k x)).run Try.prog w = .ok () w := by
  rw [Instr.checkKey]
  simp [run_underlying ht]

theorem part_i0 (a b : Int) (w : World) : (part 3 #[.int .i64 a, .int .i64 b] 0).run Try.prog w = .ok (.int .i64 a) w := by go_simp
theorem part_i1 (a b : Int) (w : World) : (part 3 #[.int .i64 a, .int .i64 b] 1).run Try.prog w = .ok (.int .i64 b) w := by go_simp
theorem part_i2 (a b c : Int) (w : World) : (part 3 #[.int .i64 a, .int .i64 b, .int .i64 c] 2).run Try.prog w = .ok (.int .i64 c) w := by go_simp
theorem part_p (a b c : Int) (w : World) : (part 63 #[.int .i64 a, .int .i64 b, .int .i64 c] 0).run Try.prog w = .ok (.agg #[.int .i64 a, .int .i64 b]) w := by go_simp

theorem check63 (e : Bool) (n : Nat) (a b : Int) (w : World) : (Instr.checkKey e (n + 2) 63 (.agg #[.int .i64 a, .int .i64 b])).run Try.prog w = .ok () w := by
  rw [Instr.checkKey]
  simp only [Sem.run_bind, run_underlying Try.underlying63, Result.andThen]
  simp [check_int _ _ _ _ _ _ Try.underlying3, part_i0, part_i1]

theorem check65 (e : Bool) (n : Nat) (a b c : Int) (w : World) : (Instr.checkKey e (n + 3) 65 (.agg #[.int .i64 a, .int .i64 b, .int .i64 c])).run Try.prog w = .ok () w := by
  rw [Instr.checkKey]
  simp only [Sem.run_bind, run_underlying Try.underlying65, Result.andThen]
  simp [check_int _ _ _ _ _ _ Try.underlying3, part_i2, part_p, check63]

theorem depth_eq : Op.maxDepth = 9997 + 3 := by simp [Op.maxDepth]

theorem kindT : KeyKind Try.prog 65 encT where
  eq a b w := by
    obtain ⟨a1, a2, a3⟩ := a
    obtain ⟨b1, b2, b3⟩ := b
    have e : (((a1 == b1) && (a2 == b2)) && a3 == b3) = decide ((a1, a2, a3) = (b1, b2, b3)) := by
      rw [Bool.eq_iff_iff]
      simp [and_assoc]
    rw [Op.equal, depth_eq, ← e]
    exact eqA65 9997 w a1 b1 a2 b2 a3 b3
  ok a e w := by
    rw [show (10000 : Nat) = 9997 + 3 from rfl]
    exact check65 e 9997 a.1 a.2.1 a.2.2 w
  now d hd a b := by
    rw [Try.underlying65] at hd
    cases hd
    rfl
  kind := ⟨_, Try.underlying65⟩
  same a := by simp [encT, Instr.sameBits]
end Go.Proofs.Ytbjpjjokamaliaa.A
