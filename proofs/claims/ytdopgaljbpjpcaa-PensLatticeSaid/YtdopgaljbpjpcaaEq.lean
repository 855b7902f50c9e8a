/- Equality of structs of this program. -/
import Derived.Test.YtdopgaljbpjpcaaProg
import Derived.WalkKit
import Derived.Laws.StructEq
namespace Go.Proofs.Ytdopgaljbpjpcaa
open Go.RowKit

theorem fields23 : (Try.prog.fieldsOf 23).toList = [{ name := "Lo", type := 3, offset := 0, embedded := false, tag := "", pkgPath := "", byteOffset := 0 }, { name := "Hi", type := 3, offset := 1, embedded := false, tag := "", pkgPath := "", byteOffset := 8 }] := by kernel_rfl
theorem fields25 : (Try.prog.fieldsOf 25).toList = [{ name := "Band", type := 3, offset := 0, embedded := false, tag := "", pkgPath := "", byteOffset := 0 }, { name := "Zero", type := 23, offset := 1, embedded := false, tag := "", pkgPath := "", byteOffset := 8 }, { name := "Rate", type := 3, offset := 3, embedded := false, tag := "", pkgPath := "", byteOffset := 24 }] := by kernel_rfl
theorem fields59 : (Try.prog.fieldsOf 59).toList = [{ name := "Shown", type := 3, offset := 0, embedded := false, tag := "", pkgPath := "", byteOffset := 0 }, { name := "Real", type := 3, offset := 1, embedded := false, tag := "", pkgPath := "", byteOffset := 8 }] := by kernel_rfl
theorem fields72 : (Try.prog.fieldsOf 72).toList = [{ name := "To", type := 3, offset := 0, embedded := false, tag := "", pkgPath := "", byteOffset := 0 }, { name := "Change", type := 23, offset := 1, embedded := false, tag := "", pkgPath := "", byteOffset := 8 }] := by kernel_rfl
theorem held23 : Try.prog.stoodInHeld 23 = false := by kernel_rfl
theorem held25 : Try.prog.stoodInHeld 25 = false := by kernel_rfl
theorem held59 : Try.prog.stoodInHeld 59 = false := by kernel_rfl
theorem held72 : Try.prog.stoodInHeld 72 = false := by kernel_rfl
theorem under23 : Try.prog.underlying 23 = some (.struct (Try.prog.fieldsOf 23)) := by kernel_rfl
theorem under25 : Try.prog.underlying 25 = some (.struct (Try.prog.fieldsOf 25)) := by kernel_rfl
theorem under59 : Try.prog.underlying 59 = some (.struct (Try.prog.fieldsOf 59)) := by kernel_rfl
theorem under72 : Try.prog.underlying 72 = some (.struct (Try.prog.fieldsOf 72)) := by kernel_rfl

theorem eqIn23 (d : Nat) (a b c e : Int) (w : World) : (Op.equalIn (d + 2) 23 (.agg #[.int .i64 a, .int .i64 b]) (.agg #[.int .i64 c, .int .i64 e])).run Try.prog w = .ok (a == c && b == e) w := by
  rw [run_equalIn_struct w (d + 1) 23 _ _ under23 held23, fields23]
  simp [Op.eqFields, go_sem]
  by_cases h1 : a = c <;> by_cases h2 : b = e <;> simp [h1, h2]
theorem eqIn59 (d : Nat) (a b c e : Int) (w : World) : (Op.equalIn (d + 2) 59 (.agg #[.int .i64 a, .int .i64 b]) (.agg #[.int .i64 c, .int .i64 e])).run Try.prog w = .ok (a == c && b == e) w := by
  rw [run_equalIn_struct w (d + 1) 59 _ _ under59 held59, fields59]
  simp [Op.eqFields, go_sem]
  by_cases h1 : a = c <;> by_cases h2 : b = e <;> simp [h1, h2]
theorem eqIn72 (d : Nat) (t a b t' c e : Int) (w : World) : (Op.equalIn (d + 3) 72 (.agg #[.int .i64 t, .int .i64 a, .int .i64 b]) (.agg #[.int .i64 t', .int .i64 c, .int .i64 e])).run Try.prog w = .ok (t == t' && (a == c && b == e)) w := by
  rw [run_equalIn_struct w (d + 2) 72 _ _ under72 held72, fields72]
  simp [Op.eqFields, go_sem, eqIn23]
  by_cases h1 : a = c <;> by_cases h2 : b = e <;> by_cases h3 : t = t' <;> simp [h1, h2, h3]
theorem eqIn25 (d : Nat) (t a b u t' c e u' : Int) (w : World) : (Op.equalIn (d + 3) 25 (.agg #[.int .i64 t, .int .i64 a, .int .i64 b, .int .i64 u]) (.agg #[.int .i64 t', .int .i64 c, .int .i64 e, .int .i64 u'])).run Try.prog w = .ok (t == t' && (a == c && b == e) && u == u') w := by
  rw [run_equalIn_struct w (d + 2) 25 _ _ under25 held25, fields25]
  simp [Op.eqFields, go_sem, eqIn23]
  by_cases h1 : a = c <;> by_cases h2 : b = e <;> by_cases h3 : t = t' <;> by_cases h4 : u = u' <;> simp [h1, h2, h3, h4]
theorem guard23 (op : BinOp) (x y : Operand) (xs ys : Array Value) (w : World) : (eqGuard op 23 x y (.agg xs) (.agg ys)).run Try.prog w = .ok () w := run_eqGuard_agg w op 23 x y xs ys (by kernel_rfl)
theorem guard25 (op : BinOp) (x y : Operand) (xs ys : Array Value) (w : World) : (eqGuard op 25 x y (.agg xs) (.agg ys)).run Try.prog w = .ok () w := run_eqGuard_agg w op 25 x y xs ys (by kernel_rfl)
theorem guard59 (op : BinOp) (x y : Operand) (xs ys : Array Value) (w : World) : (eqGuard op 59 x y (.agg xs) (.agg ys)).run Try.prog w = .ok () w := run_eqGuard_agg w op 59 x y xs ys (by kernel_rfl)
theorem guard72 (op : BinOp) (x y : Operand) (xs ys : Array Value) (w : World) : (eqGuard op 72 x y (.agg xs) (.agg ys)).run Try.prog w = .ok () w := run_eqGuard_agg w op 72 x y xs ys (by kernel_rfl)
theorem neq23 (a b c e : Int) (w : World) : (binOp .neq 23 (.agg #[.int .i64 a, .int .i64 b]) (.agg #[.int .i64 c, .int .i64 e])).run Try.prog w = .ok (.bool (!(a == c && b == e))) w := by
  rw [run_neq_struct, show (10000 : Nat) = 9998 + 2 from rfl, eqIn23]; rfl
theorem eql23 (a b c e : Int) (w : World) : (binOp .eql 23 (.agg #[.int .i64 a, .int .i64 b]) (.agg #[.int .i64 c, .int .i64 e])).run Try.prog w = .ok (.bool (a == c && b == e)) w := by
  rw [run_eql_struct, show (10000 : Nat) = 9998 + 2 from rfl, eqIn23]; rfl
theorem neq59 (a b c e : Int) (w : World) : (binOp .neq 59 (.agg #[.int .i64 a, .int .i64 b]) (.agg #[.int .i64 c, .int .i64 e])).run Try.prog w = .ok (.bool (!(a == c && b == e))) w := by
  rw [run_neq_struct, show (10000 : Nat) = 9998 + 2 from rfl, eqIn59]; rfl
theorem eql59 (a b c e : Int) (w : World) : (binOp .eql 59 (.agg #[.int .i64 a, .int .i64 b]) (.agg #[.int .i64 c, .int .i64 e])).run Try.prog w = .ok (.bool (a == c && b == e)) w := by
  rw [run_eql_struct, show (10000 : Nat) = 9998 + 2 from rfl, eqIn59]; rfl
theorem neq72 (t a b t' c e : Int) (w : World) : (binOp .neq 72 (.agg #[.int .i64 t, .int .i64 a, .int .i64 b]) (.agg #[.int .i64 t', .int .i64 c, .int .i64 e])).run Try.prog w = .ok (.bool (!(t == t' && (a == c && b == e)))) w := by
  rw [run_neq_struct, show (10000 : Nat) = 9997 + 3 from rfl, eqIn72]; rfl
theorem neq25 (t a b u t' c e u' : Int) (w : World) : (binOp .neq 25 (.agg #[.int .i64 t, .int .i64 a, .int .i64 b, .int .i64 u]) (.agg #[.int .i64 t', .int .i64 c, .int .i64 e, .int .i64 u'])).run Try.prog w = .ok (.bool (!(t == t' && (a == c && b == e) && u == u'))) w := by
  rw [run_neq_struct, show (10000 : Nat) = 9997 + 3 from rfl, eqIn25]; rfl
theorem eql25 (t a b u t' c e u' : Int) (w : World) : (binOp .eql 25 (.agg #[.int .i64 t, .int .i64 a, .int .i64 b, .int .i64 u]) (.agg #[.int .i64 t', .int .i64 c, .int .i64 e, .int .i64 u'])).run Try.prog w = .ok (.bool (t == t' && (a == c && b == e) && u == u')) w := by
  rw [run_eql_struct, show (10000 : Nat) = 9997 + 3 from rfl, eqIn25]; rfl
end Go.Proofs.Ytdopgaljbpjpcaa
