/-
  The walk of the document's Get over any bytes.
-/
import Derived.Test.YtnlncfjibbdimaaDoorURdX
import Derived.Test.YtnlncfjibbdimaaDoorUGetZ
import Derived.Test.YtnlncfjibbdimaaDoorUInLaw
namespace Go.Proofs.YtnlncfjibbdimaaDoor
open Go.RowKit
set_option linter.unusedSimpArgs false
set_option linter.unusedVariables false
section
variable {bs : List Nat} {A : Option Addr} {c hi g p n most : Nat} {w w' : World} {e : Ending}
theorem OwnInts.addr {w : World} {lo hi : Nat} {v : Value} {xs : List Int} (h : OwnInts w lo hi v xs) (h0 : 0 < xs.length) : ∃ b c, v = .slice (some ⟨b, 0, none⟩) xs.length c ∧ b < w.heap.size ∧ ∀ j x, xs[j]? = some x → w.cell? ⟨b, j, none⟩ = some (.int .i64 x) := by
  obtain ⟨A, c, rfl, _⟩ := h.1.form
  obtain ⟨_, hh⟩ := h.1.1
  rcases hh with ⟨h1, h2⟩ | ⟨b, cap, cur, h1, _⟩
  · omega
  · injection h1 with h1 _ h3
    subst h1
    refine ⟨b, c, rfl, (h.1.1.lt b (by simp [Value.ownBlock])).2, fun j x hx => ?_⟩
    have := World.ownsRow.cells h.1.1 (g := b) (by simp [Value.ownBlock]) j (.int .i64 x) (by rw [ints_getElem?, hx]; rfl)
    rw [Addr.add_mid, Nat.zero_add] at this
    exact this
end
/-- What the document's Get answers. -/
def RGetPost (bs : List Nat) (w : World) (e : Ending) (w' : World) : Prop :=
  (∃ c pv, pCmd bs = some (c, []) ∧ chkB c = true ∧ e = .returned (.tuple #[.agg (c.cells pv).toArray, .bool true]) ∧ OwnInts w' w.heap.size w'.heap.size pv c.parts ∧ Below w.heap.size w w') ∨
  ((∀ c, pCmd bs = some (c, []) → chkB c = false) ∧ e = .returned (.tuple #[.agg (zeroCmd.cells (.slice none 0 0)).toArray, .bool false]) ∧ Below w.heap.size w w')
end Go.Proofs.YtnlncfjibbdimaaDoor
