/-
  PostUnlike: unlike messages have unlike bytes: the law answers true, and its arguments read as they did. Conditions: none beyond the row's own.
-/
import Derived.Test.YtnlncfjibbdimaaDoorUBase
import Derived.Test.YtnlncfjibbdimaaDoorUPUnl
import Derived.Test.YtnlncfjibbdimaaDoorUFacts2
import Derived.Test.YtnlncfjibbdimaaDoorUFacts3
import Derived.Test.YtnlncfjibbdimaaDoorCards
namespace Go.Proofs.YtnlncfjibbdimaaDoor
open Go.ChangeShapes Go.WideShapes Go.ChangeAt Go.RowKit
set_option linter.unusedSimpArgs false
set_option linter.unusedVariables false
theorem door_metPostUnlike (os : Os) (args : Array Value) : laidMetH Tryd.prog Rows.postUnlikeRow.laid ((World.doorLaid Tryd.prog 400 os).forCall (fun _ _ => 0) ⟨#[], args, []⟩).memory :=
  laidMetH_of_parts3 (fuel := 8) (laidMet_of_run' 8 (by kernel_rfl) (by kernel_rfl)) (by kernel_rfl) (by kernel_rfl)
set_option maxRecDepth 100000 in
theorem postUnlike_lifted (os : Os) (started : os.Started) (H : Type) (enc : TypeId × Value → H) :
    ReturnsInHanded {} Tryd.checked os 21 .any (fun w args => (Rows.postUnlikeSpec.pre enc Tryd.prog Tryd.f21 [] false w args ∧ laidMetH Tryd.prog Rows.postUnlikeRow.laid w) ∧ sizedMet enc Tryd.prog Tryd.f21 (OpenSpec.ofChange Rows.postUnlikeSpec) false w args)
      (Rows.postUnlikeSpec.post enc Tryd.prog Tryd.f21 false true false false) :=
  law_lifted 21 Tryd.f21 Tryd.func21 (by kernel_rfl) (by rw [Tryd.params21]; intro t ht; simp at ht; subst ht; exact ⟨by kernel_rfl, of_decide_eq_true (by kernel_rfl)⟩) (by kernel_rfl)
    Rows.postUnlikeSpec rfl (fun H ts vs enc W ds p hA => by
      rw [Tryd.params21] at hA
      cases vs with
      | nil => exact absurd hA (by intro h; exact h)
      | cons v vs =>
        obtain ⟨_, _, d0, ds0, p0, q0, hv0, rfl, _, _, r0⟩ := trodAll_cons hA
        injection hv0 with _ hv0'
        subst hv0'
        cases vs with
        | nil => exact absurd r0 (by intro h; exact h)
        | cons v vs =>
          obtain ⟨_, _, d1, ds1, p1, q1, hv1, rfl, _, _, r1⟩ := trodAll_cons r0
          injection hv1 with _ hv1'
          subst hv1'
          obtain ⟨_, rfl, _⟩ := trodAll_nil r1
          rfl)
    Rows.postUnlikeRow.laid sentsPostUnlike rfl sentsPostUnlike_ok (by kernel_rfl) postUnlike_walk os started H enc
    (ChangeSpec.witness_shaped (enc := enc) (C := Tryd.checked) (os := os) (X := fun w _ => laidMetH Tryd.prog Rows.postUnlikeRow.laid w) false (World.doorLaid Tryd.prog 400 os) #[.agg #[.int .i64 0, .int .i64 0, .int .i64 0, .int .i64 0, .int .i64 0, .int .i64 0, .int .i64 0, .int .i64 0, .int .i64 0, .int .i64 0, .slice none 0 0, .int .i64 0, .int .i64 0, .int .i64 0, .bool false, .slice none 0 0], .agg #[.int .i64 0, .int .i64 0, .int .i64 0, .int .i64 0, .int .i64 0, .int .i64 0, .int .i64 0, .int .i64 0, .int .i64 0, .int .i64 0, .slice none 0 0, .int .i64 0, .int .i64 0, .int .i64 0, .bool false, .slice none 0 0]] 8 rfl
      (World.shaped_of_RefB (by kernel_rfl) (by kernel_rfl)) (by kernel_rfl) (by kernel_rfl) (by kernel_rfl) (door_metPostUnlike os _))
theorem postUnlike_closed : joinedFacts Tryd.prog 21 Tryd.f21 Rows.postUnlikeSpec Rows.postUnlikeRow = true :=
  joined_of (by kernel_rfl) rfl rfl rfl rfl rfl rfl (by kernel_rfl) (by kernel_rfl) (by kernel_rfl)
theorem postUnlike_row : Rows.PostUnlikeSaid :=
  OpenClaim.holds_of_wide 21 Tryd.f21 rfl rfl rfl rfl rfl rfl rfl ⟨rfl, rfl, rfl, rfl, rfl⟩ rfl rfl rfl rfl rfl (by kernel_rfl) Tryd.func21 postUnlike_closed
    (of_decide_eq_true (by kernel_rfl)) (by unfold Func.isWrapper; first | (rw [if_pos (by decide +kernel)]; kernel_rfl) | (rw [if_neg (by decide +kernel)]; exact ⟨rfl, rfl⟩))
    (fun os started H enc _ => postUnlike_lifted os started H enc)
theorem postUnlike_wf : Rows.postUnlikeRow.wfByText (OpenSpec.ofChange Rows.postUnlikeSpec) = true := by kernel_rfl
theorem postUnlike_goes : false = Rows.postUnlikeRow.goesBy Tryd.prog := by kernel_rfl
theorem postUnlike_holds : Rows.PostUnlikeCardSaid :=
  Claim7.holds_tied_plain_at .later [] [.sentinel, .sentinel, .sentinel, .sentinel, .sentinel] true (true, "a4a27f2a982bcfed5a7de90f8998f20b5afa7391e13f2d8864d099d57fc81cc2") true
    postUnlike_row (fun _ h => by cases h) postUnlike_wf (fun _ h => by cases h) postUnlike_row_tie rfl ⟨rfl, rfl⟩ pf_mainIs rfl
    (fun f fn hf hfn => by
      obtain rfl : f = 21 := Option.some.inj ((show Tryd.prog.funcNamed "bollard/bollardlaw15.PostUnlike" = some 21 by kernel_rfl).symm.trans hf) |>.symm
      obtain rfl : fn = Tryd.f21 := (Option.some.inj (Tryd.func21.symm.trans hfn)).symm
      exact ⟨pf_looks, fun j t ht => by
        rw [Tryd.params21] at ht
        rcases j with _ | j
        · obtain rfl : t = 143 := by simpa using ht.symm
          exact (show Tryd.prog.wantsStandIn 143 = false by kernel_rfl)
        rcases j with _ | j
        · obtain rfl : t = 143 := by simpa using ht.symm
          exact (show Tryd.prog.wantsStandIn 143 = false by kernel_rfl)
        · simp at ht⟩)
    postUnlike_goes
#print axioms postUnlike_holds
end Go.Proofs.YtnlncfjibbdimaaDoor
