/-
  RoundReads: the walk, off the row's reading of its arguments.
-/
import Derived.Test.YtnlncfjibbdimaaDoorReads13
import Derived.Test.YtnlncfjibbdimaaDoorArgs
import Derived.Test.YtnlncfjibbdimaaDoorOpen2
import Derived.Test.YtnlncfjibbdimaaDoorFrame
import Derived.Test.YtnlncfjibbdimaaDoorLift
namespace Go.Proofs.YtnlncfjibbdimaaDoor
open Go.ChangeShapes Go.WideShapes Go.ChangeAt Go.RowKit
set_option linter.unusedSimpArgs false
set_option linter.unusedVariables false

def sentsRoundReads : List (String × Nat × List UInt8) := [("bollard/api.ErrNumber", 0, [98, 111, 108, 108, 97, 114, 100, 58, 32, 110, 117, 109, 98, 101, 114]), ("bollard/api.ErrGone", 10, [98, 111, 108, 108, 97, 114, 100, 58, 32, 103, 111, 110, 101]), ("bollard/api.ErrFull", 4, [98, 111, 108, 108, 97, 114, 100, 58, 32, 102, 117, 108, 108]), ("bollard/api.ErrBallot", 3, [98, 111, 108, 108, 97, 114, 100, 58, 32, 98, 97, 108, 108, 111, 116]), ("bollard/api.ErrState", 1, [98, 111, 108, 108, 97, 114, 100, 58, 32, 115, 116, 97, 116, 101])]
theorem sentsRoundReads_ok : ∀ x ∈ sentsRoundReads, SentOk x := by
  intro x hx
  simp only [sentsRoundReads, List.mem_cons, List.not_mem_nil, or_false] at hx
  rcases hx with rfl | rfl | rfl | rfl | rfl
  · exact ⟨by kernel_rfl, by kernel_rfl⟩
  · exact ⟨by kernel_rfl, by kernel_rfl⟩
  · exact ⟨by kernel_rfl, by kernel_rfl⟩
  · exact ⟨by kernel_rfl, by kernel_rfl⟩
  · exact ⟨by kernel_rfl, by kernel_rfl⟩

theorem E13.of {W : World} {B : Nat} {A : Nat → Addr} {G : List Nat} (hE : Errs W B A G) (h : ∀ q, q = 0 ∨ q = 1 ∨ q = 3 ∨ q = 4 ∨ q = 10 → q ∈ G) : E13 W A := fun q hq => hE.cell q (h q hq)

set_option maxRecDepth 100000 in
theorem roundReads_walk : LawWalk 12 Tryd.f12 (sentsRoundReads.map (·.2.1)) := by
  intro H enc W base args ds p A hA hval hsz hlt hE
  rw [Tryd.params12] at hA hval hsz
  obtain ⟨v0, vs0, d0, ds0, p0, q0, hargs, rfl, rfl, h0, r0⟩ := trodAll_cons hA
  obtain ⟨v1, vs1, d1, ds1, p1, q1, hargs1, rfl, rfl, h1, r1⟩ := trodAll_cons r0
  obtain ⟨rfl, rfl, rfl⟩ := trodAll_nil r1
  obtain rfl : args = #[v0, v1] := by cases args; simp_all
  have hl0 : Light 46 d0 := light_of_each (j := 0) hsz rfl rfl
  have c0 := arg_slice' Tryd.underlying46 (hval 0 46 v0 rfl rfl)
  obtain ⟨cs, rfl, _⟩ := okWide_struct Tryd.underlying23 (hval 1 23 v1 rfl rfl)
  obtain ⟨f0, h0⟩ := h0
  obtain ⟨f1, h1⟩ := h1
  rw [c0] at h0
  obtain ⟨v, l, e0, hL⟩ := open_led h0 hl0
  injection e0 with e0 _
  subst e0
  obtain ⟨a, b, hcs, _⟩ := trod_bal h1
  have hc : cs = #[.int .i64 a, .int .i64 b] := by
    have e : (Value.agg cs).cells.toList = cs.toList := rfl
    rw [e] at hcs
    rw [← Array.toArray_toList (xs := cs), hcs]
  subst hc
  exact roundReads_any W A (E13.of hE (fun q hq => by simp only [sentsRoundReads, List.map_cons, List.map_nil]; simp; omega)) 0 W.heap.size v0 l hL (Nat.le_refl _) a b
end Go.Proofs.YtnlncfjibbdimaaDoor
