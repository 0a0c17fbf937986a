/-
  The forms of a law's arguments, off the row's own condition.
-/
import Derived.Test.YtnlncfjibbdimaaDoorOpen2
namespace Go.Proofs.YtnlncfjibbdimaaDoor
open Go.ChangeShapes Go.WideShapes Go.ChangeAt Go.RowKit
set_option linter.unusedSimpArgs false
set_option linter.unusedVariables false
set_option maxRecDepth 100000

theorem arg_int' {w : World} {r : Reach} {base : Nat} {v : Value} {t : TypeId} {k : IntKind} (ht : Tryd.prog.underlying t = some (.int k)) (h : Value.okWide Tryd.prog w r base t v) : v.cells.toList = [v] := by
  simp only [Value.okWide, ht, Cell.okWide] at h
  cases v <;> simp_all [Cell.ok, Value.cells]
theorem arg_slice' {w : World} {r : Reach} {base : Nat} {v : Value} {t e : TypeId} (ht : Tryd.prog.underlying t = some (.slice e)) (h : Value.okWide Tryd.prog w r base t v) : v.cells.toList = [v] := by
  simp only [Value.okWide, ht, Cell.okWide] at h
  cases v <;> simp_all [Cell.ok, Value.cells]
theorem arg_string' {w : World} {r : Reach} {base : Nat} {v : Value} {t : TypeId} (ht : Tryd.prog.underlying t = some .string) (h : Value.okWide Tryd.prog w r base t v) : v.cells.toList = [v] := by
  simp only [Value.okWide, ht, Cell.okWide] at h
  cases v <;> simp_all [Cell.ok, Value.cells]
theorem okWide_array {w : World} {r : Reach} {base n : Nat} {v : Value} {t e : TypeId} (ht : Tryd.prog.underlying t = some (.array n e)) (h : Value.okWide Tryd.prog w r base t v) : ∃ cs, v = .agg cs ∧ True := by
  simp only [Value.okWide, ht] at h
  obtain ⟨cs, h1, _⟩ := h
  exact ⟨cs, h1, trivial⟩

end Go.Proofs.YtnlncfjibbdimaaDoor
