/-
  The walks of package ballot: Above, Half, legal, New, promise; and the document's Above, Legal.
-/
import Derived.Test.YtnlncfjibbdimaaDoorBase
import Derived.Deep.QuietTactic
import Derived.BigQuiet
import Derived.Deep.RegionHeld3
namespace Go.Proofs.YtnlncfjibbdimaaDoor
open Go.RowKit
set_option linter.unusedSimpArgs false
set_option linter.unusedVariables false

abbrev errv (a : Addr) : Value := .iface 251 (.pointer (some a))

/-- Is a ballot above another one? -/
def ab (r1 n1 r2 n2 : Int) : Bool := decide (r2 < r1) || (decide (r1 = r2) && decide (n2 < n1))
/-- Is a ballot legal? -/
def lg (r n : Int) : Bool := decide (1 ≤ r ∧ r ≤ 1099511627776 ∧ 0 ≤ n ∧ n < 16)
def half (n : Int) : Int := if n < 1 then 0 else n / 2 + 1

set_option maxHeartbeats 400000 in
theorem above_any (r1 n1 r2 n2 : Int) (w : World) :
    Calls Tryd.prog 23 #[.agg #[.int .i64 r1, .int .i64 n1], .agg #[.int .i64 r2, .int .i64 n2]] w fun e w' =>
      e = .returned (.bool (ab r1 n1 r2 n2)) ∧ Below w.heap.size w w' := by
  go_enter Tryd.func23, Tryd.ntmps23
  go_wp2
  all_goals
    go_ret
    refine ⟨ret_bool ?_, ((Below.refl _ _).alloc (by simp) _).alloc (by simp) _⟩
    rw [Bool.eq_iff_iff]
    simp only [ab, Bool.or_eq_true, Bool.and_eq_true, decide_eq_true_eq, true_iff]
    omega

set_option maxHeartbeats 400000 in
theorem rabove_any (r1 n1 r2 n2 : Int) (w : World) :
    Calls Tryd.prog 24 #[.agg #[.int .i64 r1, .int .i64 n1], .agg #[.int .i64 r2, .int .i64 n2]] w fun e w' =>
      e = .returned (.bool (ab r1 n1 r2 n2)) ∧ Below w.heap.size w w' := by
  by_cases h : r1 = r2
  · have hb : (r1 != r2) = false := by simp [h]
    go_enter Tryd.func24, Tryd.ntmps24
    go_wp2
    go_ret
    refine ⟨ret_bool ?_, ((Below.refl _ _).alloc (by simp) _).alloc (by simp) _⟩
    rw [Bool.eq_iff_iff]
    simp only [ab, Bool.or_eq_true, Bool.and_eq_true, decide_eq_true_eq]
    omega
  · have hb : (r1 != r2) = true := by simp [h]
    go_enter Tryd.func24, Tryd.ntmps24
    go_wp2
    go_ret
    refine ⟨ret_bool ?_, ((Below.refl _ _).alloc (by simp) _).alloc (by simp) _⟩
    rw [Bool.eq_iff_iff]
    simp only [ab, Bool.or_eq_true, Bool.and_eq_true, decide_eq_true_eq]
    omega

set_option maxHeartbeats 400000 in
theorem half_any (n : Int) (hn : n ≤ 9223372036854775807) (w : World) :
    Calls Tryd.prog 25 #[.int .i64 n] w fun e w' => e = .returned (.int .i64 (half n)) ∧ w = w' := by
  by_cases h : n < 1
  · go_enter Tryd.func25, Tryd.ntmps25
    go_wp2
    go_ret
    exact ⟨ret_int (by rw [half, if_pos h]), rfl⟩
  · have h' : 1 ≤ n := by omega
    go_enter Tryd.func25, Tryd.ntmps25
    go_wp2
    go_ret
    exact ⟨ret_int (by rw [half, if_neg (by omega)]), rfl⟩

set_option maxHeartbeats 400000 in
theorem legal_any (r n : Int) (w : World) :
    Calls Tryd.prog 145 #[.agg #[.int .i64 r, .int .i64 n]] w fun e w' => e = .returned (.bool (lg r n)) ∧ Below w.heap.size w w' := by
  go_enter Tryd.func145, Tryd.ntmps145
  go_wp2
  all_goals
    go_ret
    refine ⟨ret_bool ?_, (Below.refl _ _).alloc (by simp) _⟩
    rw [Bool.eq_iff_iff]
    simp only [lg, Bool.or_eq_true, Bool.and_eq_true, decide_eq_true_eq, true_iff, Bool.false_eq_true, false_iff]
    omega

set_option maxHeartbeats 400000 in
theorem rlegal_any (r n : Int) (w : World) :
    Calls Tryd.prog 57 #[.agg #[.int .i64 r, .int .i64 n]] w fun e w' => e = .returned (.bool (lg r n)) ∧ Below w.heap.size w w' := by
  go_enter Tryd.func57, Tryd.ntmps57
  go_wp2
  all_goals
    go_ret
    refine ⟨ret_bool ?_, (Below.refl _ _).alloc (by simp) _⟩
    rw [Bool.eq_iff_iff]
    simp only [lg, Bool.or_eq_true, Bool.and_eq_true, decide_eq_true_eq, true_iff, Bool.false_eq_true, false_iff]
    omega

/-! ### Acceptors -/

structure Acc where
  node : Int
  pr : Int
  pn : Int
  ar : Int
  an : Int
  led : List Cmd
  claimed : Int
def Acc.cells (s : Acc) (v : Value) : Array Value := #[.int .i64 s.node, .int .i64 s.pr, .int .i64 s.pn, .int .i64 s.ar, .int .i64 s.an, v, .int .i64 s.claimed]
def Acc.new (n : Int) : Acc := ⟨n, 0, 0, 0, 0, [], 0⟩

theorem new_bad (n : Int) (a0 : Addr) (w : World) (h0 : w.cell? ⟨0, 0, none⟩ = some (errv a0)) (hn : n < 0 ∨ 16 ≤ n) :
    Calls Tryd.prog 26 #[.int .i64 n] w fun e w' => e = .returned (.tuple #[.pointer none, errv a0]) ∧ Below w.heap.size w w' := by
  rcases hn with hn | hn
  · go_enter Tryd.func26, Tryd.ntmps26
    go_wp2
    go_quiet (fail)
    go_wp2
    go_ret2
    exact ⟨rfl, ⟨rfl, rfl, rfl, by simp, fun _ _ => rfl⟩⟩
  · have hn' : ¬ n < 0 := by omega
    go_enter Tryd.func26, Tryd.ntmps26
    go_wp2
    go_quiet (fail)
    go_wp2
    go_ret2
    exact ⟨rfl, ⟨rfl, rfl, rfl, by simp, fun _ _ => rfl⟩⟩

theorem new_ok (n : Int) (w : World) (h1 : 0 ≤ n) (h2 : n < 16) :
    Calls Tryd.prog 26 #[.int .i64 n] w fun e w' => e = .returned (.tuple #[.pointer (some ⟨w.heap.size, 0, none⟩), .nilIface]) ∧ w' = w.alloc (.cells ((Acc.new n).cells (.slice none 0 0)) 156) := by
  go_enter Tryd.func26, Tryd.ntmps26
  go_wp2
  go_ret2
  exact ⟨rfl, rfl⟩

end Go.Proofs.YtnlncfjibbdimaaDoor
