/-
  The walk of command.goodPiece.
  Comparing two ids, two pieces: one equation each.
-/
import Derived.Test.YtnlncfjibbdimaaDoorUKind
import Derived.Test.YtnlncfjibbdimaaDoorUBase
namespace Go.Proofs.YtnlncfjibbdimaaDoor
open Go.RowKit
set_option linter.unusedSimpArgs false
set_option linter.unusedVariables false
def pieceB (a b c z : Int) (e : ByteArray) : Bool := gid a b c && decide (0 ≤ z ∧ z ≤ 1024) && decide (e.size = 64) && allB (inSet hexes) e
def PiecePost (r : Bool) (w : World) (e : Ending) (w' : World) : Prop := e = .returned (.bool r) ∧ Below w.heap.size w w'
theorem PiecePost.of {r r' : Bool} {w w' : World} (h : r = r') (hb : Below w.heap.size w w') : PiecePost r' w (.returned (.bool r)) w' := ⟨by rw [h], hb⟩
set_option maxRecDepth 100000 in
set_option maxHeartbeats 1600000 in
theorem goodPiece_any (a b c z : Int) (s : ByteArray) (hs : s.size ≤ maxLen) (w : World) : Calls Tryd.prog 96 #[.agg #[.int .i64 a, .int .i64 b, .int .i64 c, .int .i64 z, .string s]] w (PiecePost (pieceB a b c z s) w) := by
  have hs' : s.size ≤ 9223372036854775807 := by simpa [maxLen] using hs
  have hall := fun w => all_any s hexes hs w
  unfold hexes at hall
  obtain ⟨r5, h5⟩ : ∃ r, r = allB (inSet hexes) s := ⟨_, rfl⟩
  have h5' := h5
  unfold hexes at h5'
  rw [← h5'] at hall
  obtain ⟨r1, h1⟩ : ∃ r, r = gid a b c := ⟨_, rfl⟩
  have k40 := fun w => goodId_any a b c w
  unfold IdPost at k40
  rw [← h1] at k40
  have hr : pieceB a b c z s = (r1 && decide (0 ≤ z ∧ z ≤ 1024) && decide (s.size = 64) && r5) := by rw [h1, h5]; rfl
  have HR := Lib.hid hr
  clear h1 h5 h5' hr hs
  have hb : Below w.heap.size w (w.alloc (.cells #[.int .i64 a, .int .i64 b, .int .i64 c, .int .i64 z, .string s] 79)) := (Below.refl _ _).alloc (Nat.le_refl _) _
  go_enter Tryd.func96, Tryd.ntmps96
  go_wp2_with (fail)
  refine (k40 _).mono ?_
  rintro e w2 ⟨rfl, b2⟩
  have hX := (Blk.new w 79 #[.int .i64 a, .int .i64 b, .int .i64 c, .int .i64 z, .string s]).below b2 (by simp)
  have hbb := hb.trans (b2.mono (by simp))
  have cX := hX.cell
  have HB := Lib.hid hbb
  clear hb b2 hX hbb
  cases r1 with
  | false =>
    go_wp2_with (fail)
    go_ret
    exact PiecePost.of (by rw [HR.out]; simp) HB.out
  | true =>
    by_cases z0 : z ≥ 0
    · by_cases z1 : z ≤ 1024
      · by_cases s64 : (s.size : Int) = 64
        · go_wp2_with (go_at_call 91; refine (hall _).mono ?_; rintro e w3 ⟨rfl, rfl⟩)
          go_ret
          exact PiecePost.of (by rw [HR.out, decide_eq_true (show 0 ≤ z ∧ z ≤ 1024 by omega), decide_eq_true (show s.size = 64 by omega)]; simp) HB.out
        · go_wp2_with (fail)
          go_ret
          exact PiecePost.of (by rw [HR.out, decide_eq_false (show ¬ s.size = 64 by omega)]; simp) HB.out
      · go_wp2_with (fail)
        go_ret
        exact PiecePost.of (by rw [HR.out, decide_eq_false (show ¬ (0 ≤ z ∧ z ≤ 1024) by omega)]; simp) HB.out
    · go_wp2_with (fail)
      go_ret
      exact PiecePost.of (by rw [HR.out, decide_eq_false (show ¬ (0 ≤ z ∧ z ≤ 1024) by omega)]; simp) HB.out
end Go.Proofs.YtnlncfjibbdimaaDoor

namespace Go.Proofs.YtnlncfjibbdimaaDoor
open Go.RowKit
set_option linter.unusedSimpArgs false
set_option linter.unusedVariables false
theorem st74 : Tryd.prog.stoodInHeld 74 = false := by kernel_rfl
theorem st79 : Tryd.prog.stoodInHeld 79 = false := by kernel_rfl
theorem f74 : Tryd.prog.underlying 74 = some (.struct (Tryd.prog.fieldsOf 74)) := by unfold Program.fieldsOf; rw [Tryd.underlying74]
theorem f79 : Tryd.prog.underlying 79 = some (.struct (Tryd.prog.fieldsOf 79)) := by unfold Program.fieldsOf; rw [Tryd.underlying79]
def eq3 (a b c a' b' c' : Int) : Bool := decide (a = a') && (decide (b = b') && decide (c = c'))
set_option maxRecDepth 100000 in
theorem eqIn74 (a b c a' b' c' : Int) (d : Nat) (w : World) : (Op.equalIn (d + 2) 74 (.agg #[.int .i64 a, .int .i64 b, .int .i64 c]) (.agg #[.int .i64 a', .int .i64 b', .int .i64 c'])).run Tryd.prog w = .ok (eq3 a b c a' b' c') w := by
  rw [run_equalIn_struct w (d + 1) 74 _ _ f74 st74]
  simp only [Program.fieldsOf, Tryd.underlying74]
  simp [Op.eqFields, go_sem, part, eq3]
  by_cases h1 : a = a' <;> by_cases h2 : b = b' <;> by_cases h3 : c = c' <;> simp [h1, h2, h3]
theorem eq74 (a b c a' b' c' : Int) (w : World) : (binOp .eql 74 (.agg #[.int .i64 a, .int .i64 b, .int .i64 c]) (.agg #[.int .i64 a', .int .i64 b', .int .i64 c'])).run Tryd.prog w = .ok (.bool (eq3 a b c a' b' c')) w := by
  rw [run_eql_struct, show 10000 = 9998 + 2 from rfl, eqIn74]
  rfl
def eq5 (a b c z : Int) (s : ByteArray) (a' b' c' z' : Int) (s' : ByteArray) : Bool := eq3 a b c a' b' c' && (decide (z = z') && (s.toList == s'.toList))
set_option maxRecDepth 100000 in
theorem eq79 (a b c z : Int) (s : ByteArray) (a' b' c' z' : Int) (s' : ByteArray) (w : World) : (binOp .eql 79 (.agg #[.int .i64 a, .int .i64 b, .int .i64 c, .int .i64 z, .string s]) (.agg #[.int .i64 a', .int .i64 b', .int .i64 c', .int .i64 z', .string s'])).run Tryd.prog w = .ok (.bool (eq5 a b c z s a' b' c' z' s')) w := by
  rw [run_eql_struct, show 10000 = 9999 + 1 from rfl, run_equalIn_struct w 9999 79 _ _ f79 st79]
  have h := eqIn74 a b c a' b' c' 9997
  simp only [Program.fieldsOf, Tryd.underlying79]
  simp [Op.eqFields, part, Tryd.underlying74]
  have h' : (Op.equalIn 9999 74 (.agg #[.int .i64 a, .int .i64 b, .int .i64 c]) (.agg #[.int .i64 a', .int .i64 b', .int .i64 c'])).run Tryd.prog w = .ok (eq3 a b c a' b' c') w := h w
  rw [h']
  unfold eq5
  cases he : eq3 a b c a' b' c'
  · simp
  · have e1 := run_equalIn_int (P := Tryd.prog) w 9998 3 .i64 .i64 z z' Tryd.underlying3
    have e2 := run_equalIn_string (P := Tryd.prog) w 9998 9 s s' Tryd.underlying9
    simp only [Result.andThen_ok, Bool.true_eq_false, if_false]
    rw [show (9999 : Nat) = 9998 + 1 from rfl, e1]
    by_cases hz : z = z'
    · subst hz
      simp only [beq_self_eq_true, Result.andThen_ok, Bool.true_eq_false, if_false, e2]
      cases s.toList == s'.toList <;> simp
    · simp [hz]
end Go.Proofs.YtnlncfjibbdimaaDoor
