/-
  CommandForms: Check and Put of every command are answered as the document answers them, and what is written is read back: the law answers true, and its argument reads as it did. Conditions: none beyond the row's own.
-/
import Derived.Test.YtnlncfjibbdimaaDoorOpen2
import Derived.Test.YtnlncfjibbdimaaDoorForms10Walk
import Derived.Test.YtnlncfjibbdimaaDoorFacts2
import Derived.Test.YtnlncfjibbdimaaDoorFacts3
import Derived.Test.YtnlncfjibbdimaaDoorCards
namespace Go.Proofs.YtnlncfjibbdimaaDoor
open Go.ChangeShapes Go.WideShapes Go.ChangeAt Go.RowKit
set_option linter.unusedSimpArgs false
set_option linter.unusedVariables false

theorem door_metCommandForms (os : Os) (args : Array Value) : laidMetH Tryd.prog Rows.commandFormsRow.laid ((World.doorLaid Tryd.prog 400 os).forCall (fun _ _ => 0) ⟨#[], args, []⟩).memory :=
  laidMetH_of_parts3 (fuel := 8) (laidMet_of_run' 8 (by kernel_rfl) (by kernel_rfl)) (by kernel_rfl) (by kernel_rfl)

set_option maxRecDepth 100000 in
theorem commandForms_lifted (os : Os) (started : os.Started) (H : Type) (enc : TypeId × Value → H) :
    ReturnsInHanded {} Tryd.checked os 8 .any (fun w args => (Rows.commandFormsSpec.pre enc Tryd.prog Tryd.f8 [] false w args ∧ laidMetH Tryd.prog Rows.commandFormsRow.laid w) ∧ sizedMet enc Tryd.prog Tryd.f8 (OpenSpec.ofChange Rows.commandFormsSpec) false w args)
      (Rows.commandFormsSpec.post enc Tryd.prog Tryd.f8 false true false false) :=
  law_lifted 8 Tryd.f8 Tryd.func8 (by kernel_rfl) (by rw [Tryd.params8]; intro t ht; simp at ht; subst ht; exact ⟨by kernel_rfl, of_decide_eq_true (by kernel_rfl)⟩) (by kernel_rfl)
    Rows.commandFormsSpec rfl (fun H ts vs enc W ds p hA => by
      rw [Tryd.params8] at hA
      cases vs with
      | nil => exact absurd hA (by intro h; exact h)
      | cons v vs =>
        obtain ⟨_, _, d0, ds0, p0, q0, hv0, rfl, _, _, r0⟩ := trodAll_cons hA
        injection hv0 with _ hv0'
        subst hv0'
        obtain ⟨_, rfl, _⟩ := trodAll_nil r0
        rfl)
    Rows.commandFormsRow.laid sentsCommandForms rfl sentsCommandForms_ok (by kernel_rfl) commandForms_walk os started H enc
    (ChangeSpec.witness_shaped (enc := enc) (C := Tryd.checked) (os := os) (X := fun w _ => laidMetH Tryd.prog Rows.commandFormsRow.laid w) false (World.doorLaid Tryd.prog 400 os) #[.agg #[.int .i64 0, .int .i64 0, .int .i64 0, .int .i64 0, .string ⟨#[]⟩, .string ⟨#[]⟩, .int .i64 0, .int .i64 0, .int .i64 0, .int .i64 0, .int .i64 0, .int .i64 0, .int .i64 0, .string ⟨#[]⟩, .int .i64 0, .slice none 0 0, .int .i64 0, .int .i64 0]] 8 rfl
      (World.shaped_of_RefB (by kernel_rfl) (by kernel_rfl)) (by kernel_rfl) (by kernel_rfl) (by kernel_rfl) (door_metCommandForms os _))

theorem commandForms_closed : joinedFacts Tryd.prog 8 Tryd.f8 Rows.commandFormsSpec Rows.commandFormsRow = true :=
  joined_of (by kernel_rfl) rfl rfl rfl rfl rfl rfl (by kernel_rfl) (by kernel_rfl) (by kernel_rfl)

theorem commandForms_row : Rows.CommandFormsSaid :=
  OpenClaim.holds_of_wide 8 Tryd.f8 rfl rfl rfl rfl rfl rfl rfl ⟨rfl, rfl, rfl, rfl, rfl⟩ rfl rfl rfl rfl rfl (by kernel_rfl) Tryd.func8 commandForms_closed
    (of_decide_eq_true (by kernel_rfl)) (by unfold Func.isWrapper; first | (rw [if_pos (by decide +kernel)]; kernel_rfl) | (rw [if_neg (by decide +kernel)]; exact ⟨rfl, rfl⟩))
    (fun os started H enc _ => commandForms_lifted os started H enc)

theorem commandForms_wf : Rows.commandFormsRow.wfByText (OpenSpec.ofChange Rows.commandFormsSpec) = true := by kernel_rfl
theorem commandForms_goes : false = Rows.commandFormsRow.goesBy Tryd.prog := by kernel_rfl

theorem commandForms_holds : Rows.CommandFormsCardSaid :=
  Claim7.holds_tied_plain_at .later [] [.sentinel, .sentinel, .sentinel] true (true, "a4a27f2a982bcfed5a7de90f8998f20b5afa7391e13f2d8864d099d57fc81cc2") true
    commandForms_row (fun _ h => by cases h) commandForms_wf (fun _ h => by cases h) commandForms_row_tie rfl ⟨rfl, rfl⟩ pf_mainIs rfl
    (fun f fn hf hfn => by
      obtain rfl : f = 8 := Option.some.inj ((show Tryd.prog.funcNamed "bollard/bollardlaw10.CommandForms" = some 8 by kernel_rfl).symm.trans hf) |>.symm
      obtain rfl : fn = Tryd.f8 := (Option.some.inj (Tryd.func8.symm.trans hfn)).symm
      exact ⟨pf_looks, fun j t ht => by
        rw [Tryd.params8] at ht
        rcases j with _ | j
        · obtain rfl : t = 81 := by simpa using ht.symm
          exact (show Tryd.prog.wantsStandIn 81 = false by kernel_rfl)
        · simp at ht⟩)
    commandForms_goes
#print axioms commandForms_holds
end Go.Proofs.YtnlncfjibbdimaaDoor
