/-
  When two names are the same key, when two answers are the same.
-/
import Derived.Laws.StructEq
import Derived.Test.YtjbjgceblanhpaaDoorSpUp
namespace Go.Proofs.YtjbjgceblanhpaaDoor
open Go.RowKit
namespace Sp
set_option maxRecDepth 100000 in
@[go_sem] theorem eqName (a b c d : ByteArray) (w : World) : (Op.equalIn 10000 80 (.agg #[.string a, .string b]) (.agg #[.string c, .string d])).run Tryd.prog w = .ok (a.toList == c.toList && b.toList == d.toList) w := by
  have u3 := Tryd.underlying9
  have a3 := Tryd.isAgg9
  have z3 := Tryd.sizeOf9
  have hS : Tryd.prog.underlying 80 = some (.struct (Tryd.prog.fieldsOf 80)) := by kernel_rfl
  have hp : Tryd.prog.stoodInHeld 80 = false := by kernel_rfl
  rw [show (10000 : Nat) = 9999 + 1 from rfl, run_equalIn_agg w 9999 80 _ _ hS hp]
  simp only [Program.fieldsOf, Tryd.underlying80]
  go_simp
  by_cases h1 : a.toList = c.toList <;> by_cases h2 : b.toList = d.toList <;> simp [h1, h2]
@[go_sem] theorem guardName : Tryd.prog.eqGuardType Tryd.prog.depth 80 = false := by kernel_rfl
set_option maxRecDepth 100000 in
theorem eqSeen (a b c d : Int) (s u : ByteArray) (w : World) : (Op.equalIn 10000 35 (.agg #[.int .i64 a, .int .i64 b, .string s]) (.agg #[.int .i64 c, .int .i64 d, .string u])).run Tryd.prog w = .ok (a == c && (b == d && s.toList == u.toList)) w := by
  have u3 := Tryd.underlying9
  have a3 := Tryd.isAgg9
  have z3 := Tryd.sizeOf9
  have u4 := Tryd.underlying3
  have a4 := Tryd.isAgg3
  have z4 := Tryd.sizeOf3
  have u5 := Tryd.underlying2
  have a5 := Tryd.isAgg2
  have z5 := Tryd.sizeOf2
  have hS : Tryd.prog.underlying 35 = some (.struct (Tryd.prog.fieldsOf 35)) := by kernel_rfl
  have hp : Tryd.prog.stoodInHeld 35 = false := by kernel_rfl
  rw [show (10000 : Nat) = 9999 + 1 from rfl, run_equalIn_agg w 9999 35 _ _ hS hp]
  simp only [Program.fieldsOf, Tryd.underlying35]
  go_simp
  by_cases h1 : a = c <;> by_cases h2 : b = d <;> by_cases h3 : s.toList = u.toList <;> simp [h1, h2, h3]
@[go_sem] theorem guardSeen : Tryd.prog.eqGuardType Tryd.prog.depth 35 = false := by kernel_rfl
end Sp
end Go.Proofs.YtjbjgceblanhpaaDoor
