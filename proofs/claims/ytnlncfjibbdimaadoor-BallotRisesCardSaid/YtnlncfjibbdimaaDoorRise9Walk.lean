/-
  BallotRises: the walk, off the row's reading of its arguments.
-/
import Derived.Test.YtnlncfjibbdimaaDoorRises9
namespace Go.Proofs.YtnlncfjibbdimaaDoor
open Go.ChangeShapes Go.WideShapes Go.ChangeAt Go.RowKit
set_option linter.unusedSimpArgs false
set_option linter.unusedVariables false

def sentsBallotRises : List (String × Nat × List UInt8) := [("bollard/api.ErrNumber", 0, [98, 111, 108, 108, 97, 114, 100, 58, 32, 110, 117, 109, 98, 101, 114]), ("bollard/api.ErrFull", 4, [98, 111, 108, 108, 97, 114, 100, 58, 32, 102, 117, 108, 108]), ("bollard/api.ErrBallot", 3, [98, 111, 108, 108, 97, 114, 100, 58, 32, 98, 97, 108, 108, 111, 116])]
theorem sentsBallotRises_ok : ∀ x ∈ sentsBallotRises, SentOk x := by
  intro x hx
  simp only [sentsBallotRises, List.mem_cons, List.not_mem_nil, or_false] at hx
  rcases hx with rfl | rfl | rfl
  · exact ⟨by kernel_rfl, by kernel_rfl⟩
  · exact ⟨by kernel_rfl, by kernel_rfl⟩
  · exact ⟨by kernel_rfl, by kernel_rfl⟩

set_option maxRecDepth 100000 in
theorem arg_int {w : World} {r : Reach} {base : Nat} {v : Value} {t : TypeId} {k : IntKind} (ht : Tryd.prog.underlying t = some (.int k)) (h : Value.okWide Tryd.prog w r base t v) : v.cells.toList = [v] := by
  simp only [Value.okWide, ht, Cell.okWide] at h
  cases v <;> simp_all [Cell.ok, Value.cells]
set_option maxRecDepth 100000 in
theorem arg_slice {w : World} {r : Reach} {base : Nat} {v : Value} {t e : TypeId} (ht : Tryd.prog.underlying t = some (.slice e)) (h : Value.okWide Tryd.prog w r base t v) : v.cells.toList = [v] := by
  simp only [Value.okWide, ht, Cell.okWide] at h
  cases v <;> simp_all [Cell.ok, Value.cells]
set_option maxRecDepth 100000 in
theorem arg_string {w : World} {r : Reach} {base : Nat} {v : Value} {t : TypeId} (ht : Tryd.prog.underlying t = some .string) (h : Value.okWide Tryd.prog w r base t v) : v.cells.toList = [v] := by
  simp only [Value.okWide, ht, Cell.okWide] at h
  cases v <;> simp_all [Cell.ok, Value.cells]

set_option maxRecDepth 100000 in
theorem ballotRises_walk : LawWalk 6 Tryd.f6 (sentsBallotRises.map (·.2.1)) := by
  intro H enc W base args ds p A hA hval hsz hlt hE
  rw [Tryd.params6] at hA hval hsz
  obtain ⟨v0, vs0, d0, ds0, p0, q0, hargs, rfl, rfl, h0, r0⟩ := trodAll_cons hA
  obtain ⟨v1, vs1, d1, ds1, p1, q1, hargs1, rfl, rfl, h1, r1⟩ := trodAll_cons r0
  obtain ⟨rfl, rfl, rfl⟩ := trodAll_nil r1
  obtain rfl : args = #[v0, v1] := by cases args; simp_all
  have hl1 : Light 54 d1 := light_of_each (j := 1) hsz rfl rfl
  have c0 := arg_int Tryd.underlying3 (hval 0 3 v0 rfl rfl)
  have c1 := arg_slice Tryd.underlying54 (hval 1 54 v1 rfl rfl)
  obtain ⟨f0, h0⟩ := h0
  obtain ⟨f1, h1⟩ := h1
  rw [c0] at h0
  rw [c1] at h1
  obtain ⟨node, e0, _⟩ := trod_i64 h0
  obtain ⟨v, os, e1, hS⟩ := open_script h1 hl1
  injection e0 with e0 _
  injection e1 with e1 _
  subst e0; subst e1
  exact rises_any node v1 os W A (hE.cell 0 (by simp [sentsBallotRises])) (hE.cell 3 (by simp [sentsBallotRises])) (hE.cell 4 (by simp [sentsBallotRises])) hS

end Go.Proofs.YtnlncfjibbdimaaDoor
