/-
  PostPuts: Check and Put of every message are answered as the document answers them, and what was written is read back: the law answers true, and its argument reads as it did. Conditions: none beyond the row's own.
-/
import Derived.Test.YtnlncfjibbdimaaDoorCards
import Derived.Test.YtnlncfjibbdimaaDoorUBase
import Derived.Test.YtnlncfjibbdimaaDoorUPUnl
import Derived.Test.YtnlncfjibbdimaaDoorUPWire
import Derived.Test.YtnlncfjibbdimaaDoorUPCheck
import Derived.Test.YtnlncfjibbdimaaDoorURRead
import Derived.Test.YtnlncfjibbdimaaDoorURefWire
import Derived.Test.YtnlncfjibbdimaaDoorUWireX
import Derived.Test.YtnlncfjibbdimaaDoorUSameL
import Derived.Test.YtnlncfjibbdimaaDoorUCheck
import Derived.Test.YtnlncfjibbdimaaDoorUPiece
import Derived.Test.YtnlncfjibbdimaaDoorUKind
import Derived.Test.YtnlncfjibbdimaaDoorULex
import Derived.Test.YtnlncfjibbdimaaDoorUNames5
import Derived.Test.YtnlncfjibbdimaaDoorULaws
import Derived.Test.YtnlncfjibbdimaaDoorUSameC
import Derived.Test.YtnlncfjibbdimaaDoorURdrA
import Derived.Test.YtnlncfjibbdimaaDoorURdX
import Derived.Test.YtnlncfjibbdimaaDoorUReadX
import Derived.Test.YtnlncfjibbdimaaDoorUGetZ
import Derived.Test.YtnlncfjibbdimaaDoorURdr6
import Derived.Test.YtnlncfjibbdimaaDoorURdr8
import Derived.Test.YtnlncfjibbdimaaDoorUDGet
import Derived.Test.YtnlncfjibbdimaaDoorUInLaw
import Derived.Test.YtnlncfjibbdimaaDoorUInForm
import Derived.Test.YtnlncfjibbdimaaDoorUPGet
import Derived.Test.YtnlncfjibbdimaaDoorUPInAny
import Derived.Test.YtnlncfjibbdimaaDoorUPInA
import Derived.Test.YtnlncfjibbdimaaDoorULedgersW
import Derived.Test.YtnlncfjibbdimaaDoorUPSame
import Derived.Test.YtnlncfjibbdimaaDoorURPut
import Derived.Test.YtnlncfjibbdimaaDoorUPInB
import Derived.Test.YtnlncfjibbdimaaDoorUPInC
import Derived.Test.YtnlncfjibbdimaaDoorUPInD
import Derived.Test.YtnlncfjibbdimaaDoorUPInE
import Derived.Test.YtnlncfjibbdimaaDoorUPInF
import Derived.Test.YtnlncfjibbdimaaDoorUPInG
import Derived.Test.YtnlncfjibbdimaaDoorUPInH
import Derived.Test.YtnlncfjibbdimaaDoorUPInI
import Derived.Test.YtnlncfjibbdimaaDoorUPInJ
import Derived.Test.YtnlncfjibbdimaaDoorUPInK
import Derived.Test.YtnlncfjibbdimaaDoorUPInL
import Derived.Test.YtnlncfjibbdimaaDoorUFacts2
import Derived.Test.YtnlncfjibbdimaaDoorUFacts
import Derived.Test.YtnlncfjibbdimaaDoorUFacts3
import Derived.Test.YtnlncfjibbdimaaDoorVPPuts
import Derived.Test.YtnlncfjibbdimaaDoorVRMPut
import Derived.Test.YtnlncfjibbdimaaDoorVPCopied
namespace Go.Proofs.YtnlncfjibbdimaaDoor
open Go.ChangeShapes Go.WideShapes Go.ChangeAt Go.RowKit
set_option linter.unusedSimpArgs false
set_option linter.unusedVariables false
theorem door_metPostPuts (os : Os) (args : Array Value) : laidMetH Tryd.prog Rows.postPutsRow.laid ((World.doorLaid Tryd.prog 400 os).forCall (fun _ _ => 0) ⟨#[], args, []⟩).memory :=
  laidMetH_of_parts3 (fuel := 8) (laidMet_of_run' 8 (by kernel_rfl) (by kernel_rfl)) (by kernel_rfl) (by kernel_rfl)
set_option maxRecDepth 100000 in
theorem postPuts_lifted (os : Os) (started : os.Started) (H : Type) (enc : TypeId × Value → H) :
    ReturnsInHanded {} Tryd.checked os 18 .any (fun w args => (Rows.postPutsSpec.pre enc Tryd.prog Tryd.f18 [] false w args ∧ laidMetH Tryd.prog Rows.postPutsRow.laid w) ∧ sizedMet enc Tryd.prog Tryd.f18 (OpenSpec.ofChange Rows.postPutsSpec) false w args)
      (Rows.postPutsSpec.post enc Tryd.prog Tryd.f18 false true false false) :=
  law_lifted 18 Tryd.f18 Tryd.func18 (by kernel_rfl) (by rw [Tryd.params18]; intro t ht; simp at ht; subst ht; exact ⟨by kernel_rfl, of_decide_eq_true (by kernel_rfl)⟩) (by kernel_rfl)
    Rows.postPutsSpec rfl (fun H ts vs enc W ds p hA => by
      rw [Tryd.params18] at hA
      cases vs with
      | nil => exact absurd hA (by intro h; exact h)
      | cons v vs =>
        obtain ⟨_, _, d0, ds0, p0, q0, hv0, rfl, _, _, r0⟩ := trodAll_cons hA
        injection hv0 with _ hv0'
        subst hv0'
        obtain ⟨_, rfl, _⟩ := trodAll_nil r0
        rfl)
    Rows.postPutsRow.laid sentsPostPuts rfl sentsPostPuts_ok (by kernel_rfl) postPuts_walk os started H enc
    (ChangeSpec.witness_shaped (enc := enc) (C := Tryd.checked) (os := os) (X := fun w _ => laidMetH Tryd.prog Rows.postPutsRow.laid w) false (World.doorLaid Tryd.prog 400 os) #[.agg #[.int .i64 0, .int .i64 0, .int .i64 0, .int .i64 0, .int .i64 0, .int .i64 0, .int .i64 0, .int .i64 0, .int .i64 0, .int .i64 0, .slice none 0 0, .int .i64 0, .int .i64 0, .int .i64 0, .bool false, .slice none 0 0]] 8 rfl
      (World.shaped_of_RefB (by kernel_rfl) (by kernel_rfl)) (by kernel_rfl) (by kernel_rfl) (by kernel_rfl) (door_metPostPuts os _))
theorem postPuts_closed : joinedFacts Tryd.prog 18 Tryd.f18 Rows.postPutsSpec Rows.postPutsRow = true :=
  joined_of (by kernel_rfl) rfl rfl rfl rfl rfl rfl (by kernel_rfl) (by kernel_rfl) (by kernel_rfl)
theorem postPuts_row : Rows.PostPutsSaid :=
  OpenClaim.holds_of_wide 18 Tryd.f18 rfl rfl rfl rfl rfl rfl rfl ⟨rfl, rfl, rfl, rfl, rfl⟩ rfl rfl rfl rfl rfl (by kernel_rfl) Tryd.func18 postPuts_closed
    (of_decide_eq_true (by kernel_rfl)) (by unfold Func.isWrapper; first | (rw [if_pos (by decide +kernel)]; kernel_rfl) | (rw [if_neg (by decide +kernel)]; exact ⟨rfl, rfl⟩))
    (fun os started H enc _ => postPuts_lifted os started H enc)
theorem postPuts_wf : Rows.postPutsRow.wfByText (OpenSpec.ofChange Rows.postPutsSpec) = true := by kernel_rfl
theorem postPuts_goes : false = Rows.postPutsRow.goesBy Tryd.prog := by kernel_rfl
theorem postPuts_holds : Rows.PostPutsCardSaid :=
  Claim7.holds_tied_plain_at .later [] [.sentinel, .sentinel, .sentinel, .sentinel, .sentinel] true (true, "a4a27f2a982bcfed5a7de90f8998f20b5afa7391e13f2d8864d099d57fc81cc2") true
    postPuts_row (fun _ h => by cases h) postPuts_wf (fun _ h => by cases h) postPuts_row_tie rfl ⟨rfl, rfl⟩ pf_mainIs rfl
    (fun f fn hf hfn => by
      obtain rfl : f = 18 := Option.some.inj ((show Tryd.prog.funcNamed "bollard/bollardlaw15.PostPuts" = some 18 by kernel_rfl).symm.trans hf) |>.symm
      obtain rfl : fn = Tryd.f18 := (Option.some.inj (Tryd.func18.symm.trans hfn)).symm
      exact ⟨pf_looks, fun j t ht => by
        rw [Tryd.params18] at ht
        rcases j with _ | j
        · obtain rfl : t = 143 := by simpa using ht.symm
          exact (show Tryd.prog.wantsStandIn 143 = false by kernel_rfl)
        · simp at ht⟩)
    postPuts_goes
#print axioms postPuts_holds
end Go.Proofs.YtnlncfjibbdimaaDoor
