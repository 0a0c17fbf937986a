/-
  BallotNumbers: for every input the law of the three ballots and the number answers true, and its argument reads as it did. Conditions: none beyond the row's own.
-/
import Derived.Test.YtnlncfjibbdimaaDoorOpen
import Derived.Test.YtnlncfjibbdimaaDoorNum9
import Derived.Test.YtnlncfjibbdimaaDoorFacts2
import Derived.Test.YtnlncfjibbdimaaDoorFacts3
import Derived.Test.YtnlncfjibbdimaaDoorCards
namespace Go.Proofs.YtnlncfjibbdimaaDoor
open Go.ChangeShapes Go.WideShapes Go.ChangeAt Go.RowKit
set_option linter.unusedSimpArgs false
set_option linter.unusedVariables false

def sents9 : List (String × Nat × List UInt8) := [("bollard/api.ErrNumber", 0, [98, 111, 108, 108, 97, 114, 100, 58, 32, 110, 117, 109, 98, 101, 114]), ("bollard/api.ErrBallot", 3, [98, 111, 108, 108, 97, 114, 100, 58, 32, 98, 97, 108, 108, 111, 116])]
theorem sents9_ok : ∀ x ∈ sents9, SentOk x := by
  intro x hx
  simp only [sents9, List.mem_cons, List.not_mem_nil, or_false] at hx
  rcases hx with rfl | rfl
  · exact ⟨by kernel_rfl, by kernel_rfl⟩
  · exact ⟨by kernel_rfl, by kernel_rfl⟩

set_option maxRecDepth 100000 in
theorem numbers_walk : LawWalk 3 Tryd.f3 (sents9.map (·.2.1)) := by
  intro H enc W base args ds p A hA hval hsz hlt hE
  rw [Tryd.params3] at hA hval
  obtain ⟨v0, vs0, d0, ds0, p0, q0, hargs, rfl, rfl, h0, r0⟩ := trodAll_cons hA
  obtain ⟨rfl, rfl, rfl⟩ := trodAll_nil r0
  obtain rfl : args = #[v0] := by cases args; simp_all
  obtain ⟨cs, rfl, _⟩ := okWide_struct Tryd.underlying25 (hval 0 25 v0 rfl rfl)
  obtain ⟨f, hf⟩ := h0
  obtain ⟨r1, n1, r2, n2, r3, n3, N, hcs, hN⟩ := trod_ballots hf
  have hc : cs = #[.int .i64 r1, .int .i64 n1, .int .i64 r2, .int .i64 n2, .int .i64 r3, .int .i64 n3, .int .i64 N] := by
    have e : (Value.agg cs).cells.toList = cs.toList := rfl
    rw [e] at hcs
    rw [← Array.toArray_toList (xs := cs), hcs]
  subst hc
  exact numbers_any r1 n1 r2 n2 r3 n3 N hN.2 W (A 3) (hE.cell 3 (by simp [sents9]))

theorem door_met9 (os : Os) (args : Array Value) : laidMetH Tryd.prog Rows.ballotNumbersRow.laid ((World.doorLaid Tryd.prog 400 os).forCall (fun _ _ => 0) ⟨#[], args, []⟩).memory :=
  laidMetH_of_parts3 (fuel := 8) (laidMet_of_run' 8 (by kernel_rfl) (by kernel_rfl)) (by kernel_rfl) (by kernel_rfl)

set_option maxRecDepth 100000 in
theorem numbers_lifted (os : Os) (started : os.Started) (H : Type) (enc : TypeId × Value → H) :
    ReturnsInHanded {} Tryd.checked os 3 .any (fun w args => (Rows.ballotNumbersSpec.pre enc Tryd.prog Tryd.f3 [] false w args ∧ laidMetH Tryd.prog Rows.ballotNumbersRow.laid w) ∧ sizedMet enc Tryd.prog Tryd.f3 (OpenSpec.ofChange Rows.ballotNumbersSpec) false w args)
      (Rows.ballotNumbersSpec.post enc Tryd.prog Tryd.f3 false true false false) :=
  law_lifted 3 Tryd.f3 Tryd.func3 (by kernel_rfl) (by rw [Tryd.params3]; intro t ht; simp at ht; subst ht; exact ⟨by kernel_rfl, of_decide_eq_true (by kernel_rfl)⟩) (by kernel_rfl)
    Rows.ballotNumbersSpec rfl (fun H ts vs enc W ds p hA => by
      rw [Tryd.params3] at hA
      cases vs with
      | nil => exact absurd hA (by intro h; exact h)
      | cons v vs =>
        obtain ⟨_, _, d0, ds0, p0, q0, _, rfl, _, _, r0⟩ := trodAll_cons hA
        obtain ⟨_, rfl, _⟩ := trodAll_nil r0
        rfl)
    Rows.ballotNumbersRow.laid sents9 rfl sents9_ok (by kernel_rfl) numbers_walk os started H enc
    (ChangeSpec.witness_shaped (enc := enc) (C := Tryd.checked) (os := os) (X := fun w _ => laidMetH Tryd.prog Rows.ballotNumbersRow.laid w) false (World.doorLaid Tryd.prog 400 os) #[.agg #[.int .i64 0, .int .i64 0, .int .i64 0, .int .i64 0, .int .i64 0, .int .i64 0, .int .i64 0]] 8 rfl
      (World.shaped_of_RefB (by kernel_rfl) (by kernel_rfl)) (by kernel_rfl) (by kernel_rfl) (by kernel_rfl) (door_met9 os _))

theorem ballotNumbers_closed : joinedFacts Tryd.prog 3 Tryd.f3 Rows.ballotNumbersSpec Rows.ballotNumbersRow = true :=
  joined_of (by kernel_rfl) rfl rfl rfl rfl rfl rfl (by kernel_rfl) (by kernel_rfl) (by kernel_rfl)

theorem ballotNumbers_row : Rows.BallotNumbersSaid :=
  OpenClaim.holds_of_wide 3 Tryd.f3 rfl rfl rfl rfl rfl rfl rfl ⟨rfl, rfl, rfl, rfl, rfl⟩ rfl rfl rfl rfl rfl (by kernel_rfl) Tryd.func3 ballotNumbers_closed
    (of_decide_eq_true (by kernel_rfl)) (by unfold Func.isWrapper; first | (rw [if_pos (by decide +kernel)]; kernel_rfl) | (rw [if_neg (by decide +kernel)]; exact ⟨rfl, rfl⟩))
    (fun os started H enc _ => numbers_lifted os started H enc)

theorem ballotNumbers_wf : Rows.ballotNumbersRow.wfByText (OpenSpec.ofChange Rows.ballotNumbersSpec) = true := by kernel_rfl
theorem ballotNumbers_goes : false = Rows.ballotNumbersRow.goesBy Tryd.prog := by kernel_rfl

theorem ballotNumbers_holds : Rows.BallotNumbersCardSaid :=
  Claim7.holds_tied_plain_at .later [] [.sentinel, .sentinel] true (true, "a4a27f2a982bcfed5a7de90f8998f20b5afa7391e13f2d8864d099d57fc81cc2") true
    ballotNumbers_row (fun _ h => by cases h) ballotNumbers_wf (fun _ h => by cases h) ballotNumbers_row_tie rfl ⟨rfl, rfl⟩ pf_mainIs rfl
    (fun f fn hf hfn => by
      obtain rfl : f = 3 := Option.some.inj ((show Tryd.prog.funcNamed "bollard/bollardlaw09.BallotNumbers" = some 3 by kernel_rfl).symm.trans hf) |>.symm
      obtain rfl : fn = Tryd.f3 := (Option.some.inj (Tryd.func3.symm.trans hfn)).symm
      exact ⟨pf_looks, fun j t ht => by
        rw [Tryd.params3] at ht
        have h25 : t = 25 := by
          rcases j with _ | j
          · simpa using ht.symm
          · simp at ht
        subst h25
        exact (show Tryd.prog.wantsStandIn 25 = false by kernel_rfl)⟩)
    ballotNumbers_goes
#print axioms ballotNumbers_holds
end Go.Proofs.YtnlncfjibbdimaaDoor
