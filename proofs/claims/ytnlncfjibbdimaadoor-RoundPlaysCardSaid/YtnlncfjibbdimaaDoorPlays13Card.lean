/-
  RoundPlays: every call in every order on two rounds is answered as the document answers it: the law answers true, and its arguments read as they did. Conditions: none beyond the row's own.
-/
import Derived.Test.YtnlncfjibbdimaaDoorOpen2
import Derived.Test.YtnlncfjibbdimaaDoorQF13
import Derived.Test.YtnlncfjibbdimaaDoorFacts2
import Derived.Test.YtnlncfjibbdimaaDoorFacts3
import Derived.Test.YtnlncfjibbdimaaDoorCards
namespace Go.Proofs.YtnlncfjibbdimaaDoor
open Go.ChangeShapes Go.WideShapes Go.ChangeAt Go.RowKit
set_option linter.unusedSimpArgs false
set_option linter.unusedVariables false

theorem door_metRoundPlays (os : Os) (args : Array Value) : laidMetH Tryd.prog Rows.roundPlaysRow.laid ((World.doorLaid Tryd.prog 400 os).forCall (fun _ _ => 0) ⟨#[], args, []⟩).memory :=
  laidMetH_of_parts3 (fuel := 8) (laidMet_of_run' 8 (by kernel_rfl) (by kernel_rfl)) (by kernel_rfl) (by kernel_rfl)

set_option maxRecDepth 100000 in
theorem roundPlays_lifted (os : Os) (started : os.Started) (H : Type) (enc : TypeId × Value → H) :
    ReturnsInHanded {} Tryd.checked os 13 .any (fun w args => (Rows.roundPlaysSpec.pre enc Tryd.prog Tryd.f13 [] false w args ∧ laidMetH Tryd.prog Rows.roundPlaysRow.laid w) ∧ sizedMet enc Tryd.prog Tryd.f13 (OpenSpec.ofChange Rows.roundPlaysSpec) false w args)
      (Rows.roundPlaysSpec.post enc Tryd.prog Tryd.f13 false true false false) :=
  law_lifted 13 Tryd.f13 Tryd.func13 (by kernel_rfl) (by
      rw [Tryd.params13]; intro t ht; simp at ht
      rcases ht with rfl | rfl | rfl
      · exact ⟨by kernel_rfl, of_decide_eq_true (by kernel_rfl)⟩
      · exact ⟨by kernel_rfl, of_decide_eq_true (by kernel_rfl)⟩
      · exact ⟨by kernel_rfl, of_decide_eq_true (by kernel_rfl)⟩) (by kernel_rfl)
    Rows.roundPlaysSpec rfl (fun H ts vs enc W ds p hA => by
      rw [Tryd.params13] at hA
      cases vs with
      | nil => exact absurd hA (by intro h; exact h)
      | cons v vs =>
        obtain ⟨_, _, d0, ds0, p0, q0, hv0, rfl, _, _, r0⟩ := trodAll_cons hA
        injection hv0 with _ hv0'
        subst hv0'
        cases vs with
        | nil => exact absurd r0 (by intro h; exact h)
        | cons v vs =>
          obtain ⟨_, _, d1, ds1, p1, q1, hv1, rfl, _, _, r1⟩ := trodAll_cons r0
          injection hv1 with _ hv1'
          subst hv1'
          cases vs with
          | nil => exact absurd r1 (by intro h; exact h)
          | cons v vs =>
            obtain ⟨_, _, d2, ds2, p2, q2, hv2, rfl, _, _, r2⟩ := trodAll_cons r1
            injection hv2 with _ hv2'
            subst hv2'
            obtain ⟨_, rfl, _⟩ := trodAll_nil r2
            rfl)
    Rows.roundPlaysRow.laid sentsRoundPlays rfl sentsRoundPlays_ok (by kernel_rfl) roundPlays_walk os started H enc
    (ChangeSpec.witness_shaped (enc := enc) (C := Tryd.checked) (os := os) (X := fun w _ => laidMetH Tryd.prog Rows.roundPlaysRow.laid w) false (World.doorLaid Tryd.prog 400 os) #[.int .i64 0, .agg #[.int .i64 0, .int .i64 0, .int .i64 0, .int .i64 0, .string ⟨#[]⟩, .string ⟨#[]⟩, .int .i64 0, .int .i64 0, .int .i64 0, .int .i64 0, .int .i64 0, .int .i64 0, .int .i64 0, .string ⟨#[]⟩, .int .i64 0, .slice none 0 0, .int .i64 0, .int .i64 0], .slice none 0 0] 8 rfl
      (World.shaped_of_RefB (by kernel_rfl) (by kernel_rfl)) (by kernel_rfl) (by kernel_rfl) (by kernel_rfl) (door_metRoundPlays os _))

theorem roundPlays_closed : joinedFacts Tryd.prog 13 Tryd.f13 Rows.roundPlaysSpec Rows.roundPlaysRow = true :=
  joined_of (by kernel_rfl) rfl rfl rfl rfl rfl rfl (by kernel_rfl) (by kernel_rfl) (by kernel_rfl)

theorem roundPlays_row : Rows.RoundPlaysSaid :=
  OpenClaim.holds_of_wide 13 Tryd.f13 rfl rfl rfl rfl rfl rfl rfl ⟨rfl, rfl, rfl, rfl, rfl⟩ rfl rfl rfl rfl rfl (by kernel_rfl) Tryd.func13 roundPlays_closed
    (of_decide_eq_true (by kernel_rfl)) (by unfold Func.isWrapper; first | (rw [if_pos (by decide +kernel)]; kernel_rfl) | (rw [if_neg (by decide +kernel)]; exact ⟨rfl, rfl⟩))
    (fun os started H enc _ => roundPlays_lifted os started H enc)

theorem roundPlays_wf : Rows.roundPlaysRow.wfByText (OpenSpec.ofChange Rows.roundPlaysSpec) = true := by kernel_rfl
theorem roundPlays_goes : false = Rows.roundPlaysRow.goesBy Tryd.prog := by kernel_rfl

theorem roundPlays_holds : Rows.RoundPlaysCardSaid :=
  Claim7.holds_tied_plain_at .later [] [.sentinel, .sentinel, .sentinel, .sentinel, .sentinel, .sentinel, .sentinel, .sentinel, .sentinel, .sentinel, .sentinel, .sentinel, .sentinel, .sentinel, .sentinel, .sentinel, .sentinel, .sentinel] true (true, "a4a27f2a982bcfed5a7de90f8998f20b5afa7391e13f2d8864d099d57fc81cc2") true
    roundPlays_row (fun _ h => by cases h) roundPlays_wf (fun _ h => by cases h) roundPlays_row_tie rfl ⟨rfl, rfl⟩ pf_mainIs rfl
    (fun f fn hf hfn => by
      obtain rfl : f = 13 := Option.some.inj ((show Tryd.prog.funcNamed "bollard/bollardlaw13.RoundPlays" = some 13 by kernel_rfl).symm.trans hf) |>.symm
      obtain rfl : fn = Tryd.f13 := (Option.some.inj (Tryd.func13.symm.trans hfn)).symm
      exact ⟨pf_looks, fun j t ht => by
        rw [Tryd.params13] at ht
        rcases j with _ | j
        · obtain rfl : t = 3 := by simpa using ht.symm
          exact (show Tryd.prog.wantsStandIn 3 = false by kernel_rfl)
        rcases j with _ | j
        · obtain rfl : t = 81 := by simpa using ht.symm
          exact (show Tryd.prog.wantsStandIn 81 = false by kernel_rfl)
        rcases j with _ | j
        · obtain rfl : t = 112 := by simpa using ht.symm
          exact (show Tryd.prog.wantsStandIn 112 = false by kernel_rfl)
        · simp at ht⟩)
    roundPlays_goes
#print axioms roundPlays_holds
end Go.Proofs.YtnlncfjibbdimaaDoor
