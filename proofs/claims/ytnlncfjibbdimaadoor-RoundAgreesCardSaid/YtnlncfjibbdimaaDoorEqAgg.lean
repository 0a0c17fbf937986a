/-
  Comparing two ids, two pieces: one equation each.
-/
import Derived.Test.YtnlncfjibbdimaaDoorBase
namespace Go.Proofs.YtnlncfjibbdimaaDoor
open Go.RowKit
set_option linter.unusedSimpArgs false
set_option linter.unusedVariables false

theorem st74 : Tryd.prog.stoodInHeld 74 = false := by kernel_rfl
theorem st79 : Tryd.prog.stoodInHeld 79 = false := by kernel_rfl
theorem f74 : Tryd.prog.underlying 74 = some (.struct (Tryd.prog.fieldsOf 74)) := by unfold Program.fieldsOf; rw [Tryd.underlying74]
theorem f79 : Tryd.prog.underlying 79 = some (.struct (Tryd.prog.fieldsOf 79)) := by unfold Program.fieldsOf; rw [Tryd.underlying79]

def eq3 (a b c a' b' c' : Int) : Bool := decide (a = a') && (decide (b = b') && decide (c = c'))

set_option maxRecDepth 100000 in
theorem eqIn74 (a b c a' b' c' : Int) (d : Nat) (w : World) : (Op.equalIn (d + 2) 74 (.agg #[.int .i64 a, .int .i64 b, .int .i64 c]) (.agg #[.int .i64 a', .int .i64 b', .int .i64 c'])).run Tryd.prog w = .ok (eq3 a b c a' b' c') w := by
  rw [run_equalIn_struct w (d + 1) 74 _ _ f74 st74]
  simp only [Program.fieldsOf, Tryd.underlying74]
  simp [Op.eqFields, go_sem, part, eq3]
  by_cases h1 : a = a' <;> by_cases h2 : b = b' <;> by_cases h3 : c = c' <;> simp [h1, h2, h3]
theorem eq74 (a b c a' b' c' : Int) (w : World) : (binOp .eql 74 (.agg #[.int .i64 a, .int .i64 b, .int .i64 c]) (.agg #[.int .i64 a', .int .i64 b', .int .i64 c'])).run Tryd.prog w = .ok (.bool (eq3 a b c a' b' c')) w := by
  rw [run_eql_struct, show 10000 = 9998 + 2 from rfl, eqIn74]
  rfl

def eq5 (a b c z : Int) (s : ByteArray) (a' b' c' z' : Int) (s' : ByteArray) : Bool := eq3 a b c a' b' c' && (decide (z = z') && (s.toList == s'.toList))
set_option maxRecDepth 100000 in
theorem eq79 (a b c z : Int) (s : ByteArray) (a' b' c' z' : Int) (s' : ByteArray) (w : World) : (binOp .eql 79 (.agg #[.int .i64 a, .int .i64 b, .int .i64 c, .int .i64 z, .string s]) (.agg #[.int .i64 a', .int .i64 b', .int .i64 c', .int .i64 z', .string s'])).run Tryd.prog w = .ok (.bool (eq5 a b c z s a' b' c' z' s')) w := by
  rw [run_eql_struct, show 10000 = 9999 + 1 from rfl, run_equalIn_struct w 9999 79 _ _ f79 st79]
  have h := eqIn74 a b c a' b' c' 9997
  simp only [Program.fieldsOf, Tryd.underlying79]
  simp [Op.eqFields, part, Tryd.underlying74]
  have h' : (Op.equalIn 9999 74 (.agg #[.int .i64 a, .int .i64 b, .int .i64 c]) (.agg #[.int .i64 a', .int .i64 b', .int .i64 c'])).run Tryd.prog w = .ok (eq3 a b c a' b' c') w := h w
  rw [h']
  unfold eq5
  cases he : eq3 a b c a' b' c'
  · simp
  · have e1 := run_equalIn_int (P := Tryd.prog) w 9998 3 .i64 .i64 z z' Tryd.underlying3
    have e2 := run_equalIn_string (P := Tryd.prog) w 9998 9 s s' Tryd.underlying9
    simp only [Result.andThen_ok, Bool.true_eq_false, if_false]
    rw [show (9999 : Nat) = 9998 + 1 from rfl, e1]
    by_cases hz : z = z'
    · subst hz
      simp only [beq_self_eq_true, Result.andThen_ok, Bool.true_eq_false, if_false, e2]
      cases s.toList == s'.toList <;> simp
    · simp [hz]

end Go.Proofs.YtnlncfjibbdimaaDoor
