/-
  CommandReads: Read of all bytes is answered as the document answers it, and a ledger that was read is written as its bytes were: the law answers true, and its argument reads as it did. Conditions: none beyond the row's own.
-/
import Derived.Test.YtnlncfjibbdimaaDoorOpen2
import Derived.Test.YtnlncfjibbdimaaDoorReadsW
import Derived.Test.YtnlncfjibbdimaaDoorFacts2
import Derived.Test.YtnlncfjibbdimaaDoorFacts3
import Derived.Test.YtnlncfjibbdimaaDoorCards
namespace Go.Proofs.YtnlncfjibbdimaaDoor
open Go.ChangeShapes Go.WideShapes Go.ChangeAt Go.RowKit
set_option linter.unusedSimpArgs false
set_option linter.unusedVariables false

theorem door_metCommandReads (os : Os) (args : Array Value) : laidMetH Tryd.prog Rows.commandReadsRow.laid ((World.doorLaid Tryd.prog 400 os).forCall (fun _ _ => 0) ⟨#[], args, []⟩).memory :=
  laidMetH_of_parts3 (fuel := 8) (laidMet_of_run' 8 (by kernel_rfl) (by kernel_rfl)) (by kernel_rfl) (by kernel_rfl)

set_option maxRecDepth 100000 in
theorem commandReads_lifted (os : Os) (started : os.Started) (H : Type) (enc : TypeId × Value → H) :
    ReturnsInHanded {} Tryd.checked os 16 .any (fun w args => (Rows.commandReadsSpec.pre enc Tryd.prog Tryd.f16 [] false w args ∧ laidMetH Tryd.prog Rows.commandReadsRow.laid w) ∧ sizedMet enc Tryd.prog Tryd.f16 (OpenSpec.ofChange Rows.commandReadsSpec) false w args)
      (Rows.commandReadsSpec.post enc Tryd.prog Tryd.f16 false true false false) :=
  law_lifted 16 Tryd.f16 Tryd.func16 (by kernel_rfl) (by rw [Tryd.params16]; intro t ht; simp at ht; subst ht; exact ⟨by kernel_rfl, of_decide_eq_true (by kernel_rfl)⟩) (by kernel_rfl)
    Rows.commandReadsSpec rfl (fun H ts vs enc W ds p hA => by
      rw [Tryd.params16] at hA
      cases vs with
      | nil => exact absurd hA (by intro h; exact h)
      | cons v vs =>
        obtain ⟨_, _, d0, ds0, p0, q0, hv0, rfl, _, _, r0⟩ := trodAll_cons hA
        injection hv0 with _ hv0'
        subst hv0'
        obtain ⟨_, rfl, _⟩ := trodAll_nil r0
        rfl)
    Rows.commandReadsRow.laid sentsCommandReads rfl sentsCommandReads_ok (by kernel_rfl) commandReads_walk os started H enc
    (ChangeSpec.witness_shaped (enc := enc) (C := Tryd.checked) (os := os) (X := fun w _ => laidMetH Tryd.prog Rows.commandReadsRow.laid w) false (World.doorLaid Tryd.prog 400 os) #[.slice none 0 0] 8 rfl
      (World.shaped_of_RefB (by kernel_rfl) (by kernel_rfl)) (by kernel_rfl) (by kernel_rfl) (by kernel_rfl) (door_metCommandReads os _))

theorem commandReads_closed : joinedFacts Tryd.prog 16 Tryd.f16 Rows.commandReadsSpec Rows.commandReadsRow = true :=
  joined_of (by kernel_rfl) rfl rfl rfl rfl rfl rfl (by kernel_rfl) (by kernel_rfl) (by kernel_rfl)

theorem commandReads_row : Rows.CommandReadsSaid :=
  OpenClaim.holds_of_wide 16 Tryd.f16 rfl rfl rfl rfl rfl rfl rfl ⟨rfl, rfl, rfl, rfl, rfl⟩ rfl rfl rfl rfl rfl (by kernel_rfl) Tryd.func16 commandReads_closed
    (of_decide_eq_true (by kernel_rfl)) (by unfold Func.isWrapper; first | (rw [if_pos (by decide +kernel)]; kernel_rfl) | (rw [if_neg (by decide +kernel)]; exact ⟨rfl, rfl⟩))
    (fun os started H enc _ => commandReads_lifted os started H enc)

theorem commandReads_wf : Rows.commandReadsRow.wfByText (OpenSpec.ofChange Rows.commandReadsSpec) = true := by kernel_rfl
theorem commandReads_goes : false = Rows.commandReadsRow.goesBy Tryd.prog := by kernel_rfl

theorem commandReads_holds : Rows.CommandReadsCardSaid :=
  Claim7.holds_tied_plain_at .later [] [.sentinel, .sentinel, .sentinel, .sentinel, .sentinel, .sentinel, .sentinel, .sentinel, .sentinel, .sentinel, .sentinel, .sentinel, .sentinel, .sentinel, .sentinel, .sentinel, .sentinel, .sentinel] true (true, "a4a27f2a982bcfed5a7de90f8998f20b5afa7391e13f2d8864d099d57fc81cc2") true
    commandReads_row (fun _ h => by cases h) commandReads_wf (fun _ h => by cases h) commandReads_row_tie rfl ⟨rfl, rfl⟩ pf_mainIs rfl
    (fun f fn hf hfn => by
      obtain rfl : f = 16 := Option.some.inj ((show Tryd.prog.funcNamed "bollard/bollardlaw10.CommandReads" = some 16 by kernel_rfl).symm.trans hf) |>.symm
      obtain rfl : fn = Tryd.f16 := (Option.some.inj (Tryd.func16.symm.trans hfn)).symm
      exact ⟨pf_looks, fun j t ht => by
        rw [Tryd.params16] at ht
        rcases j with _ | j
        · obtain rfl : t = 84 := by simpa using ht.symm
          exact (show Tryd.prog.wantsStandIn 84 = false by kernel_rfl)
        · simp at ht⟩)
    commandReads_goes
#print axioms commandReads_holds
end Go.Proofs.YtnlncfjibbdimaaDoor
