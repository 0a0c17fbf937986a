/-
  The walks of command.GoodBucket, GoodKey, GoodId and of the document's.
-/
import Derived.Test.YtnlncfjibbdimaaDoorNames1
namespace Go.Proofs.YtnlncfjibbdimaaDoor
open Go.RowKit
set_option linter.unusedSimpArgs false
set_option linter.unusedVariables false

def lettersDot : ByteArray := { data := #[97, 98, 99, 100, 101, 102, 103, 104, 105, 106, 107, 108, 109, 110, 111, 112, 113, 114, 115, 116, 117, 118, 119, 120, 121, 122, 48, 49, 50, 51, 52, 53, 54, 55, 56, 57, 45, 46] }
def letters : ByteArray := { data := #[97, 98, 99, 100, 101, 102, 103, 104, 105, 106, 107, 108, 109, 110, 111, 112, 113, 114, 115, 116, 117, 118, 119, 120, 121, 122, 48, 49, 50, 51, 52, 53, 54, 55, 56, 57] }
def hexes : ByteArray := { data := #[48, 49, 50, 51, 52, 53, 54, 55, 56, 57, 97, 98, 99, 100, 101, 102] }

theorem all_below (s t : ByteArray) (hs : s.size ≤ maxLen) (w : World) : Calls Tryd.prog 91 #[.string s, .string t] w fun e w' => e = .returned (.bool (allB (inSet t) s)) ∧ Below w.heap.size w w' :=
  (all_any s t hs w).mono fun e w' ⟨h1, h2⟩ => ⟨h1, by rw [h2]; exact Below.refl _ _⟩

def ends (s : ByteArray) : ByteArray := s.extract 0 1 ++ s.extract (s.size - 1) s.size
def gbC (s : ByteArray) : Bool := decide (3 ≤ s.size) && decide (s.size ≤ 63) && allB (inSet lettersDot) s && allB (inSet letters) (ends s)

theorem ends_size (s : ByteArray) (h : 3 ≤ s.size) : (ends s).size = 2 := by
  unfold ends
  simp
  omega

set_option maxRecDepth 100000 in
set_option maxHeartbeats 400000 in
theorem goodBucket_any (s : ByteArray) (hs : s.size ≤ maxLen) (w : World) : Calls Tryd.prog 36 #[.string s] w fun e w' => e = .returned (.bool (gbC s)) ∧ Below w.heap.size w w' := by
  have hs' : s.size ≤ 9223372036854775807 := by simpa [maxLen] using hs
  by_cases h3 : 3 ≤ s.size
  · by_cases h63 : s.size ≤ 63
    · have hall := fun w => all_below s lettersDot hs w
      have hall2 := fun w => all_below (ends s) letters (by rw [ends_size s h3]; simp [maxLen]) w
      have hd1 : decide ((s.size : Int) ≥ 3) = true := by simp; omega
      have hd2 : decide ((s.size : Int) ≤ 63) = true := by simp; omega
      have e1 : (1 : Int).toNat = 1 := rfl
      cases ha : allB (inSet lettersDot) s with
      | false =>
        have hg : gbC s = false := by simp [gbC, ha]
        rw [ha] at hall
        unfold lettersDot at hall
        clear ha hall2
        go_enter Tryd.func36, Tryd.ntmps36
        go_upto_region 2 with (fail)
        refine wp_region_quiet_below (by kernel_rfl) (by kernel_rfl) ?_
        repeat (go_big_quiet_step (first | exact Calls.regrown_of (hall _)))
        refine wpQuiet_nil ?_
        intro _ hw'
        obtain ⟨⟨dq, osq⟩, hw''⟩ := hw'
        subst hw''
        go_wp2_with fail
        go_ret
        exact ⟨ret_bool (by first | rfl | rw [hg]), below_regrown _ _ _⟩
      | true =>
        have hg : gbC s = allB (inSet letters) (ends s) := by simp [gbC, ha, h3, h63]
        rw [ha] at hall
        obtain ⟨r, hr⟩ : ∃ r, r = allB (inSet letters) (ends s) := ⟨_, rfl⟩
        rw [← hr] at hg hall2
        unfold ends at hall2
        unfold lettersDot at hall
        unfold letters at hall2
        clear ha hr
        go_enter Tryd.func36, Tryd.ntmps36
        go_upto_region 2 with (fail)
        refine wp_region_quiet_below (by kernel_rfl) (by kernel_rfl) ?_
        repeat (go_big_quiet_step (first | (with_reducible exact Calls.regrown_of (hall _)) | (with_reducible exact Calls.regrown_of (hall2 _))))
        refine wpQuiet_nil ?_
        intro _ hw'
        obtain ⟨⟨dq, osq⟩, hw''⟩ := hw'
        subst hw''
        go_wp2_with fail
        go_ret
        exact ⟨ret_bool (by first | rfl | rw [hg]), below_regrown _ _ _⟩
    · have hd1 : decide ((s.size : Int) ≥ 3) = true := by simp; omega
      have hd2 : decide ((s.size : Int) ≤ 63) = false := by simp; omega
      have hg : gbC s = false := by simp [gbC, h63]
      go_enter Tryd.func36, Tryd.ntmps36
      go_upto_region 2 with (fail)
      refine wp_region_quiet_below (by kernel_rfl) (by kernel_rfl) ?_
      repeat (go_big_quiet_step (fail))
      refine wpQuiet_nil ?_
      intro _ hw'
      obtain ⟨⟨dq, osq⟩, hw''⟩ := hw'
      subst hw''
      go_wp2_with fail
      go_ret
      exact ⟨ret_bool (by first | rfl | rw [hg]), below_regrown _ _ _⟩
  · have hd1 : decide ((s.size : Int) ≥ 3) = false := by simp; omega
    have hg : gbC s = false := by simp [gbC, h3]
    go_enter Tryd.func36, Tryd.ntmps36
    go_upto_region 2 with (fail)
    refine wp_region_quiet_below (by kernel_rfl) (by kernel_rfl) ?_
    repeat (go_big_quiet_step (fail))
    refine wpQuiet_nil ?_
    intro _ hw'
    obtain ⟨⟨dq, osq⟩, hw''⟩ := hw'
    subst hw''
    go_wp2_with fail
    go_ret
    exact ⟨ret_bool (by first | rfl | rw [hg]), below_regrown _ _ _⟩

end Go.Proofs.YtnlncfjibbdimaaDoor
