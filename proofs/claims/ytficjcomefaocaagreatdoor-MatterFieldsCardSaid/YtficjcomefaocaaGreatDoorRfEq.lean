/- STRUCTS compared: the run's equations. -/
import Derived.Test.YtficjcomefaocaaGreatDoorRfA
import Derived.Laws.StructEq
namespace Go.Proofs.YtficjcomefaocaaGreatDoor
open Go.RowKit Go.Maps
open Lexer

theorem heldStop : Tryz.prog.stoodInHeld 77 = false := by kernel_rfl
theorem heldTerm : Tryz.prog.stoodInHeld 62 = false := by kernel_rfl
theorem heldRight : Tryz.prog.stoodInHeld 41 = false := by kernel_rfl
theorem eqIn_stop (n : Nat) (a b c d : Int) (w : World) : (Op.equalIn (n + 1 + 1) 77 (.agg #[.int .i64 a, .int .i64 b]) (.agg #[.int .i64 c, .int .i64 d])).run Tryz.prog w = .ok (a == c && b == d) w := by
  have hi := fun w a b => run_equalIn_int (P := Tryz.prog) w n 3 .i64 .i64 a b Tryz.underlying3
  have hz := fun w => Tryz.sizeOf3 w
  have hf := Tryz.underlying77
  rw [run_equalIn_struct (P := Tryz.prog) w (n + 1) 77 _ _ (by simp [Program.fieldsOf, hf]) heldStop]
  simp [Program.fieldsOf, hf, Op.eqFields, hi, hz, go_sem]
  by_cases h1 : a = c <;> by_cases h2 : b = d <;> simp [h1, h2]
theorem eqIn_term (n : Nat) (a b c d : Int) (w : World) : (Op.equalIn (n + 1 + 1) 62 (.agg #[.int .i64 a, .int .i64 b]) (.agg #[.int .i64 c, .int .i64 d])).run Tryz.prog w = .ok (a == c && b == d) w := by
  have hi := fun w a b => run_equalIn_int (P := Tryz.prog) w n 3 .i64 .i64 a b Tryz.underlying3
  have hz := fun w => Tryz.sizeOf3 w
  have hf := Tryz.underlying62
  rw [run_equalIn_struct (P := Tryz.prog) w (n + 1) 62 _ _ (by simp [Program.fieldsOf, hf]) heldTerm]
  simp [Program.fieldsOf, hf, Op.eqFields, hi, hz, go_sem]
  by_cases h1 : a = c <;> by_cases h2 : b = d <;> simp [h1, h2]
theorem eqIn_right (n : Nat) (a c : ByteArray) (b d : Int) (w : World) : (Op.equalIn (n + 1 + 1) 41 (.agg #[.string a, .int .i64 b]) (.agg #[.string c, .int .i64 d])).run Tryz.prog w = .ok (a.toList == c.toList && b == d) w := by
  have hi := fun w a b => run_equalIn_int (P := Tryz.prog) w n 3 .i64 .i64 a b Tryz.underlying3
  have hs := fun w a b => run_equalIn_string (P := Tryz.prog) w n 9 a b Tryz.underlying9
  have hz := fun w => Tryz.sizeOf3 w
  have hz2 := fun w => Tryz.sizeOf9 w
  have hf := Tryz.underlying41
  rw [run_equalIn_struct (P := Tryz.prog) w (n + 1) 41 _ _ (by simp [Program.fieldsOf, hf]) heldRight]
  simp [Program.fieldsOf, hf, Op.eqFields, hi, hs, hz, hz2, go_sem]
  by_cases h1 : a.toList = c.toList <;> by_cases h2 : b = d <;> simp [h1, h2]
theorem neq_stop (a b c d : Int) (w : World) : (binOp .neq 77 (.agg #[.int .i64 a, .int .i64 b]) (.agg #[.int .i64 c, .int .i64 d])).run Tryz.prog w = .ok (.bool (!(a == c && b == d))) w := by
  rw [run_neq_struct, show (10000 : Nat) = 9998 + 1 + 1 from rfl, eqIn_stop]; rfl
theorem neq_term (a b c d : Int) (w : World) : (binOp .neq 62 (.agg #[.int .i64 a, .int .i64 b]) (.agg #[.int .i64 c, .int .i64 d])).run Tryz.prog w = .ok (.bool (!(a == c && b == d))) w := by
  rw [run_neq_struct, show (10000 : Nat) = 9998 + 1 + 1 from rfl, eqIn_term]; rfl
theorem neq_right (a c : ByteArray) (b d : Int) (w : World) : (binOp .neq 41 (.agg #[.string a, .int .i64 b]) (.agg #[.string c, .int .i64 d])).run Tryz.prog w = .ok (.bool (!(a.toList == c.toList && b == d))) w := by
  rw [run_neq_struct, show (10000 : Nat) = 9998 + 1 + 1 from rfl, eqIn_right]; rfl
theorem eql_pair' (a b c d : Int) (w : World) : (binOp .eql 101 (.agg #[.int .i64 a, .int .i64 b]) (.agg #[.int .i64 c, .int .i64 d])).run Tryz.prog w = .ok (.bool (a == c && b == d)) w := run_eql_pair a b c d w
end Go.Proofs.YtficjcomefaocaaGreatDoor
