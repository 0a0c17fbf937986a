/-
  What the document's InForm answers is what Check asks: in plain Lean.
-/
import Derived.Test.YtnlncfjibbdimaaDoorInForm
namespace Go.Proofs.YtnlncfjibbdimaaDoor
open Go.RowKit
set_option linter.unusedSimpArgs false
set_option linter.unusedVariables false

theorem beq_zero (v : Int) : ((0 : Int) == v) = (v == 0) := by
  by_cases h : v = 0
  · subst h; rfl
  · have h' : ¬ 0 = v := fun e => h e.symm
    rw [beq_eq_false_iff_ne.2 h, beq_eq_false_iff_ne.2 h']
theorem eq3_zero (a b c : Int) : eq3 0 0 0 a b c = eq3 a b c 0 0 0 := by
  unfold eq3
  rw [decide_eq_decide.2 (show (0 : Int) = a ↔ a = 0 from eq_comm), decide_eq_decide.2 (show (0 : Int) = b ↔ b = 0 from eq_comm), decide_eq_decide.2 (show (0 : Int) = c ↔ c = 0 from eq_comm)]
theorem eq3_self (a b c : Int) : eq3 a b c a b c = true := by simp [eq3]
theorem eq3_ext {a b c a' b' c' : Int} (h : eq3 a b c a' b' c' = true) : a = a' ∧ b = b' ∧ c = c' := by simpa [eq3] using h
theorem empty_beq (s : ByteArray) : ((⟨#[]⟩ : ByteArray).toList == s.toList) = s.toList.isEmpty := by
  rw [show (⟨#[]⟩ : ByteArray).toList = [] from by decide +kernel]
  cases s.toList <;> rfl
theorem beq_empty (s : ByteArray) : (s.toList == (⟨#[]⟩ : ByteArray).toList) = s.toList.isEmpty := by
  rw [show (⟨#[]⟩ : ByteArray).toList = [] from by decide +kernel]
  cases s.toList <;> rfl
theorem eq5_zero (a b c z : Int) (s : ByteArray) : eq5 0 0 0 0 ⟨#[]⟩ a b c z s = eq5 a b c z s 0 0 0 0 ⟨#[]⟩ := by
  unfold eq5
  rw [eq3_zero, empty_beq, beq_empty, decide_eq_decide.2 (show (0 : Int) = z ↔ z = 0 from eq_comm)]
theorem eq5_self (a b c z : Int) (s : ByteArray) : eq5 a b c z s a b c z s = true := by simp [eq5, eq3_self]

theorem lawTick (k : Int) (i : Nat) (v : Int) : (tick v && (wf k i v == v)) = eith (fld k i) (tick v) (v == 0) := by
  unfold wf
  cases fld k i
  · simp only [Bool.false_eq_true, if_false, beq_zero, eith, Bool.false_and, Bool.not_false, Bool.true_and, Bool.false_or]
    by_cases h : v = 0
    · subst h; rfl
    · simp [h]
  · simp [eith]
theorem lawUp (k a b c : Int) : (gid a b c && eq3 (wf k 2 a) (wf k 2 b) (wf k 2 c) a b c) = eith (fld k 2) (gid a b c) (eq3 a b c 0 0 0) := by
  unfold wf
  cases fld k 2
  · simp only [Bool.false_eq_true, if_false, eq3_zero, eith, Bool.false_and, Bool.not_false, Bool.true_and, Bool.false_or]
    cases h : eq3 a b c 0 0 0
    · simp
    · obtain ⟨rfl, rfl, rfl⟩ := eq3_ext h
      rfl
  · simp [eith, eq3_self]
theorem lawPiece (k a b c z : Int) (s : ByteArray) (g : Bool) : ((!fld k 3 || g) && eq5 (wf k 3 a) (wf k 3 b) (wf k 3 c) (wf k 3 z) (wfs (fld k 3) s) a b c z s) = eith (fld k 3) g (eq5 a b c z s 0 0 0 0 ⟨#[]⟩) := by
  unfold wf wfs
  cases fld k 3
  · simp only [Bool.false_eq_true, if_false, eq5_zero, eith, Bool.false_and, Bool.not_false, Bool.true_and, Bool.false_or, Bool.true_or]
  · simp [eith, eq5_self]
theorem lawPart (k v : Int) (i : Nat) (g : Bool) : ((!fld k i || g) && (wf k i v == v)) = eith (fld k i) g (v == 0) := by
  unfold wf
  cases fld k i
  · simp [eith, beq_zero]
  · simp [eith]
theorem lawText (f g : Bool) (s : ByteArray) : ((!f || g) && ((wfs f s).toList == s.toList)) = eith f g s.toList.isEmpty := by
  unfold wfs
  cases f
  · simp only [Bool.false_eq_true, if_false, empty_beq, eith, Bool.false_and, Bool.not_false, Bool.true_and, Bool.false_or, Bool.true_or]
  · simp [eith]
theorem named_fld {k : Int} (h : 1 ≤ k ∧ k ≤ 11) : namedB k = fld k 0 ∧ keyedB k = fld k 1 ∧ kindOk k = true := by
  have hks : k = 1 ∨ k = 2 ∨ k = 3 ∨ k = 4 ∨ k = 5 ∨ k = 6 ∨ k = 7 ∨ k = 8 ∨ k = 9 ∨ k = 10 ∨ k = 11 := by omega
  rcases hks with rfl | rfl | rfl | rfl | rfl | rfl | rfl | rfl | rfl | rfl | rfl <;> decide

theorem in_chk (c : Cmd) : inB c = chkB c := by
  unfold inB
  by_cases h : 1 ≤ c.kind ∧ c.kind ≤ 11
  · obtain ⟨h1, h2, h3⟩ := named_fld h
    rw [decide_eq_true h, Bool.true_and]
    unfold chkB okAll
    rw [h1, h2, h3, Bool.true_and, ← lawTick, ← lawTick, ← lawUp, ← lawPiece, ← lawPart, ← lawPart, ← lawText, ← lawText, gb_same]
    ac_rfl
  · rw [decide_eq_false h]
    unfold chkB
    have : kindOk c.kind = false := by unfold kindOk; exact decide_eq_false h
    rw [this]
    rfl

end Go.Proofs.YtnlncfjibbdimaaDoor
