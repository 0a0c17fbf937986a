/-
  The walk of command.goodPiece.
-/
import Derived.Test.YtnlncfjibbdimaaDoorKind
namespace Go.Proofs.YtnlncfjibbdimaaDoor
open Go.RowKit
set_option linter.unusedSimpArgs false
set_option linter.unusedVariables false

def pieceB (a b c z : Int) (e : ByteArray) : Bool := gid a b c && decide (0 ≤ z ∧ z ≤ 1024) && decide (e.size = 64) && allB (inSet hexes) e
def PiecePost (r : Bool) (w : World) (e : Ending) (w' : World) : Prop := e = .returned (.bool r) ∧ Below w.heap.size w w'
theorem PiecePost.of {r r' : Bool} {w w' : World} (h : r = r') (hb : Below w.heap.size w w') : PiecePost r' w (.returned (.bool r)) w' := ⟨by rw [h], hb⟩

set_option maxRecDepth 100000 in
set_option maxHeartbeats 1600000 in
theorem goodPiece_any (a b c z : Int) (s : ByteArray) (hs : s.size ≤ maxLen) (w : World) : Calls Tryd.prog 96 #[.agg #[.int .i64 a, .int .i64 b, .int .i64 c, .int .i64 z, .string s]] w (PiecePost (pieceB a b c z s) w) := by
  have hs' : s.size ≤ 9223372036854775807 := by simpa [maxLen] using hs
  have hall := fun w => all_any s hexes hs w
  unfold hexes at hall
  obtain ⟨r5, h5⟩ : ∃ r, r = allB (inSet hexes) s := ⟨_, rfl⟩
  have h5' := h5
  unfold hexes at h5'
  rw [← h5'] at hall
  obtain ⟨r1, h1⟩ : ∃ r, r = gid a b c := ⟨_, rfl⟩
  have k40 := fun w => goodId_any a b c w
  unfold IdPost at k40
  rw [← h1] at k40
  have hr : pieceB a b c z s = (r1 && decide (0 ≤ z ∧ z ≤ 1024) && decide (s.size = 64) && r5) := by rw [h1, h5]; rfl
  have HR := Lib.hid hr
  clear h1 h5 h5' hr hs
  have hb : Below w.heap.size w (w.alloc (.cells #[.int .i64 a, .int .i64 b, .int .i64 c, .int .i64 z, .string s] 79)) := (Below.refl _ _).alloc (Nat.le_refl _) _
  go_enter Tryd.func96, Tryd.ntmps96
  go_wp2_with (fail)
  refine (k40 _).mono ?_
  rintro e w2 ⟨rfl, b2⟩
  have hX := (Blk.new w 79 #[.int .i64 a, .int .i64 b, .int .i64 c, .int .i64 z, .string s]).below b2 (by simp)
  have hbb := hb.trans (b2.mono (by simp))
  have cX := hX.cell
  have HB := Lib.hid hbb
  clear hb b2 hX hbb
  cases r1 with
  | false =>
    go_wp2_with (fail)
    go_ret
    exact PiecePost.of (by rw [HR.out]; simp) HB.out
  | true =>
    by_cases z0 : z ≥ 0
    · by_cases z1 : z ≤ 1024
      · by_cases s64 : (s.size : Int) = 64
        · go_wp2_with (go_at_call 91; refine (hall _).mono ?_; rintro e w3 ⟨rfl, rfl⟩)
          go_ret
          exact PiecePost.of (by rw [HR.out, decide_eq_true (show 0 ≤ z ∧ z ≤ 1024 by omega), decide_eq_true (show s.size = 64 by omega)]; simp) HB.out
        · go_wp2_with (fail)
          go_ret
          exact PiecePost.of (by rw [HR.out, decide_eq_false (show ¬ s.size = 64 by omega)]; simp) HB.out
      · go_wp2_with (fail)
        go_ret
        exact PiecePost.of (by rw [HR.out, decide_eq_false (show ¬ (0 ≤ z ∧ z ≤ 1024) by omega)]; simp) HB.out
    · go_wp2_with (fail)
      go_ret
      exact PiecePost.of (by rw [HR.out, decide_eq_false (show ¬ (0 ≤ z ∧ z ≤ 1024) by omega)]; simp) HB.out

end Go.Proofs.YtnlncfjibbdimaaDoor
