/-
  BallotAgrees: of two ledgers that more than half accepted one is the beginning of the other: the law answers true, and its arguments read as they did. Conditions: none beyond the row's own.
-/
import Derived.Test.YtnlncfjibbdimaaDoorOpen2
import Derived.Test.YtnlncfjibbdimaaDoorAgrees9Walk
import Derived.Test.YtnlncfjibbdimaaDoorFacts2
import Derived.Test.YtnlncfjibbdimaaDoorFacts3
import Derived.Test.YtnlncfjibbdimaaDoorCards
namespace Go.Proofs.YtnlncfjibbdimaaDoor
open Go.ChangeShapes Go.WideShapes Go.ChangeAt Go.RowKit
set_option linter.unusedSimpArgs false
set_option linter.unusedVariables false

theorem door_metBallotAgrees (os : Os) (args : Array Value) : laidMetH Tryd.prog Rows.ballotAgreesRow.laid ((World.doorLaid Tryd.prog 400 os).forCall (fun _ _ => 0) ⟨#[], args, []⟩).memory :=
  laidMetH_of_parts3 (fuel := 8) (laidMet_of_run' 8 (by kernel_rfl) (by kernel_rfl)) (by kernel_rfl) (by kernel_rfl)

set_option maxRecDepth 100000 in
theorem ballotAgrees_lifted (os : Os) (started : os.Started) (H : Type) (enc : TypeId × Value → H) :
    ReturnsInHanded {} Tryd.checked os 4 .any (fun w args => (Rows.ballotAgreesSpec.pre enc Tryd.prog Tryd.f4 [] false w args ∧ laidMetH Tryd.prog Rows.ballotAgreesRow.laid w) ∧ sizedMet enc Tryd.prog Tryd.f4 (OpenSpec.ofChange Rows.ballotAgreesSpec) false w args)
      (Rows.ballotAgreesSpec.post enc Tryd.prog Tryd.f4 false true false false) :=
  law_lifted 4 Tryd.f4 Tryd.func4 (by kernel_rfl) (by
      rw [Tryd.params4]; intro t ht; simp at ht
      rcases ht with rfl | rfl
      · exact ⟨by kernel_rfl, of_decide_eq_true (by kernel_rfl)⟩
      · exact ⟨by kernel_rfl, of_decide_eq_true (by kernel_rfl)⟩) (by kernel_rfl)
    Rows.ballotAgreesSpec rfl (fun H ts vs enc W ds p hA => by
      rw [Tryd.params4] at hA
      cases vs with
      | nil => exact absurd hA (by intro h; exact h)
      | cons v vs =>
        obtain ⟨_, _, d0, ds0, p0, q0, hv0, rfl, _, _, r0⟩ := trodAll_cons hA
        injection hv0 with _ hv0'
        subst hv0'
        cases vs with
        | nil => exact absurd r0 (by intro h; exact h)
        | cons v vs =>
          obtain ⟨_, _, d1, ds1, p1, q1, hv1, rfl, _, _, r1⟩ := trodAll_cons r0
          injection hv1 with _ hv1'
          subst hv1'
          obtain ⟨_, rfl, _⟩ := trodAll_nil r1
          rfl)
    Rows.ballotAgreesRow.laid sentsBallotAgrees rfl sentsBallotAgrees_ok (by kernel_rfl) ballotAgrees_walk os started H enc
    (ChangeSpec.witness_shaped (enc := enc) (C := Tryd.checked) (os := os) (X := fun w _ => laidMetH Tryd.prog Rows.ballotAgreesRow.laid w) false (World.doorLaid Tryd.prog 400 os) #[.int .i64 0, .slice none 0 0] 8 rfl
      (World.shaped_of_RefB (by kernel_rfl) (by kernel_rfl)) (by kernel_rfl) (by kernel_rfl) (by kernel_rfl) (door_metBallotAgrees os _))

theorem ballotAgrees_closed : joinedFacts Tryd.prog 4 Tryd.f4 Rows.ballotAgreesSpec Rows.ballotAgreesRow = true :=
  joined_of (by kernel_rfl) rfl rfl rfl rfl rfl rfl (by kernel_rfl) (by kernel_rfl) (by kernel_rfl)

theorem ballotAgrees_row : Rows.BallotAgreesSaid :=
  OpenClaim.holds_of_wide 4 Tryd.f4 rfl rfl rfl rfl rfl rfl rfl ⟨rfl, rfl, rfl, rfl, rfl⟩ rfl rfl rfl rfl rfl (by kernel_rfl) Tryd.func4 ballotAgrees_closed
    (of_decide_eq_true (by kernel_rfl)) (by unfold Func.isWrapper; first | (rw [if_pos (by decide +kernel)]; kernel_rfl) | (rw [if_neg (by decide +kernel)]; exact ⟨rfl, rfl⟩))
    (fun os started H enc _ => ballotAgrees_lifted os started H enc)

theorem ballotAgrees_wf : Rows.ballotAgreesRow.wfByText (OpenSpec.ofChange Rows.ballotAgreesSpec) = true := by kernel_rfl
theorem ballotAgrees_goes : false = Rows.ballotAgreesRow.goesBy Tryd.prog := by kernel_rfl

theorem ballotAgrees_holds : Rows.BallotAgreesCardSaid :=
  Claim7.holds_tied_plain_at .later [] [.sentinel, .sentinel] true (true, "a4a27f2a982bcfed5a7de90f8998f20b5afa7391e13f2d8864d099d57fc81cc2") true
    ballotAgrees_row (fun _ h => by cases h) ballotAgrees_wf (fun _ h => by cases h) ballotAgrees_row_tie rfl ⟨rfl, rfl⟩ pf_mainIs rfl
    (fun f fn hf hfn => by
      obtain rfl : f = 4 := Option.some.inj ((show Tryd.prog.funcNamed "bollard/bollardlaw09.BallotAgrees" = some 4 by kernel_rfl).symm.trans hf) |>.symm
      obtain rfl : fn = Tryd.f4 := (Option.some.inj (Tryd.func4.symm.trans hfn)).symm
      exact ⟨pf_looks, fun j t ht => by
        rw [Tryd.params4] at ht
        rcases j with _ | j
        · obtain rfl : t = 3 := by simpa using ht.symm
          exact (show Tryd.prog.wantsStandIn 3 = false by kernel_rfl)
        rcases j with _ | j
        · obtain rfl : t = 30 := by simpa using ht.symm
          exact (show Tryd.prog.wantsStandIn 30 = false by kernel_rfl)
        · simp at ht⟩)
    ballotAgrees_goes
#print axioms ballotAgrees_holds
end Go.Proofs.YtnlncfjibbdimaaDoor
