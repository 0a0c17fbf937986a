/-
  PostSlips: one changed byte of a written message is refused: the law answers true, and its arguments read as they did. Conditions: none beyond the row's own.
-/
import Derived.Test.YtnlncfjibbdimaaDoorZO
import Derived.Test.YtnlncfjibbdimaaDoorZQ
import Derived.Test.YtnlncfjibbdimaaDoorZFacts2
import Derived.Test.YtnlncfjibbdimaaDoorZFacts3
import Derived.Test.YtnlncfjibbdimaaDoorCards
namespace Go.Proofs.YtnlncfjibbdimaaDoor
open Go.ChangeShapes Go.WideShapes Go.ChangeAt Go.RowKit
set_option linter.unusedSimpArgs false
set_option linter.unusedVariables false
theorem door_metPostSlips (os : Os) (args : Array Value) : laidMetH Tryd.prog Rows.postSlipsRow.laid ((World.doorLaid Tryd.prog 400 os).forCall (fun _ _ => 0) ⟨#[], args, []⟩).memory :=
  laidMetH_of_parts3 (fuel := 8) (laidMet_of_run' 8 (by kernel_rfl) (by kernel_rfl)) (by kernel_rfl) (by kernel_rfl)
set_option maxRecDepth 100000 in
theorem postSlips_lifted (os : Os) (started : os.Started) (H : Type) (enc : TypeId × Value → H) :
    ReturnsInHanded {} Tryd.checked os 20 .any (fun w args => (Rows.postSlipsSpec.pre enc Tryd.prog Tryd.f20 [] false w args ∧ laidMetH Tryd.prog Rows.postSlipsRow.laid w) ∧ sizedMet enc Tryd.prog Tryd.f20 (OpenSpec.ofChange Rows.postSlipsSpec) false w args)
      (Rows.postSlipsSpec.post enc Tryd.prog Tryd.f20 false true false false) :=
  law_lifted 20 Tryd.f20 Tryd.func20 (by kernel_rfl) (by
      rw [Tryd.params20]; intro t ht; simp at ht
      rcases ht with rfl | rfl | rfl
      · exact ⟨by kernel_rfl, of_decide_eq_true (by kernel_rfl)⟩
      · exact ⟨by kernel_rfl, of_decide_eq_true (by kernel_rfl)⟩
      · exact ⟨by kernel_rfl, of_decide_eq_true (by kernel_rfl)⟩) (by kernel_rfl)
    Rows.postSlipsSpec rfl (fun H ts vs enc W ds p hA => by
      rw [Tryd.params20] at hA
      cases vs with
      | nil => exact absurd hA (by intro h; exact h)
      | cons v vs =>
        obtain ⟨_, _, d0, ds0, p0, q0, hv0, rfl, _, _, r0⟩ := trodAll_cons hA
        injection hv0 with _ hv0'
        subst hv0'
        cases vs with
        | nil => exact absurd r0 (by intro h; exact h)
        | cons v vs =>
          obtain ⟨_, _, d1, ds1, p1, q1, hv1, rfl, _, _, r1⟩ := trodAll_cons r0
          injection hv1 with _ hv1'
          subst hv1'
          cases vs with
          | nil => exact absurd r1 (by intro h; exact h)
          | cons v vs =>
            obtain ⟨_, _, d2, ds2, p2, q2, hv2, rfl, _, _, r2⟩ := trodAll_cons r1
            injection hv2 with _ hv2'
            subst hv2'
            obtain ⟨_, rfl, _⟩ := trodAll_nil r2
            rfl)
    Rows.postSlipsRow.laid sentsPostSlips rfl sentsPostSlips_ok (by kernel_rfl) postSlips_walk os started H enc
    (ChangeSpec.witness_shaped (enc := enc) (C := Tryd.checked) (os := os) (X := fun w _ => laidMetH Tryd.prog Rows.postSlipsRow.laid w) false (World.doorLaid Tryd.prog 400 os) #[.agg #[.int .i64 0, .int .i64 0, .int .i64 0, .int .i64 0, .int .i64 0, .int .i64 0, .int .i64 0, .int .i64 0, .int .i64 0, .int .i64 0, .slice none 0 0, .int .i64 0, .int .i64 0, .int .i64 0, .bool false, .slice none 0 0], .int .i64 0, .int .u8 0] 8 rfl
      (World.shaped_of_RefB (by kernel_rfl) (by kernel_rfl)) (by kernel_rfl) (by kernel_rfl) (by kernel_rfl) (door_metPostSlips os _))
theorem postSlips_closed : joinedFacts Tryd.prog 20 Tryd.f20 Rows.postSlipsSpec Rows.postSlipsRow = true :=
  joined_of (by kernel_rfl) rfl rfl rfl rfl rfl rfl (by kernel_rfl) (by kernel_rfl) (by kernel_rfl)
theorem postSlips_row : Rows.PostSlipsSaid :=
  OpenClaim.holds_of_wide 20 Tryd.f20 rfl rfl rfl rfl rfl rfl rfl ⟨rfl, rfl, rfl, rfl, rfl⟩ rfl rfl rfl rfl rfl (by kernel_rfl) Tryd.func20 postSlips_closed
    (of_decide_eq_true (by kernel_rfl)) (by unfold Func.isWrapper; first | (rw [if_pos (by decide +kernel)]; kernel_rfl) | (rw [if_neg (by decide +kernel)]; exact ⟨rfl, rfl⟩))
    (fun os started H enc _ => postSlips_lifted os started H enc)
theorem postSlips_wf : Rows.postSlipsRow.wfByText (OpenSpec.ofChange Rows.postSlipsSpec) = true := by kernel_rfl
theorem postSlips_goes : false = Rows.postSlipsRow.goesBy Tryd.prog := by kernel_rfl
theorem postSlips_holds : Rows.PostSlipsCardSaid :=
  Claim7.holds_tied_plain_at .later [] [.sentinel, .sentinel, .sentinel, .sentinel, .sentinel] true (true, "a4a27f2a982bcfed5a7de90f8998f20b5afa7391e13f2d8864d099d57fc81cc2") true
    postSlips_row (fun _ h => by cases h) postSlips_wf (fun _ h => by cases h) postSlips_row_tie rfl ⟨rfl, rfl⟩ pf_mainIs rfl
    (fun f fn hf hfn => by
      obtain rfl : f = 20 := Option.some.inj ((show Tryd.prog.funcNamed "bollard/bollardlaw15.PostSlips" = some 20 by kernel_rfl).symm.trans hf) |>.symm
      obtain rfl : fn = Tryd.f20 := (Option.some.inj (Tryd.func20.symm.trans hfn)).symm
      exact ⟨pf_looks, fun j t ht => by
        rw [Tryd.params20] at ht
        rcases j with _ | j
        · obtain rfl : t = 143 := by simpa using ht.symm
          exact (show Tryd.prog.wantsStandIn 143 = false by kernel_rfl)
        rcases j with _ | j
        · obtain rfl : t = 3 := by simpa using ht.symm
          exact (show Tryd.prog.wantsStandIn 3 = false by kernel_rfl)
        rcases j with _ | j
        · obtain rfl : t = 5 := by simpa using ht.symm
          exact (show Tryd.prog.wantsStandIn 5 = false by kernel_rfl)
        · simp at ht⟩)
    postSlips_goes
#print axioms postSlips_holds
end Go.Proofs.YtnlncfjibbdimaaDoor
