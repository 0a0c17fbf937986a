/-
  The walk of bollardlaw10.alive: the chapter's example.
-/
import Derived.Test.YtnlncfjibbdimaaDoorPutF
import Derived.Laws.IdiomStrings
namespace Go.Proofs.YtnlncfjibbdimaaDoor
open Go.RowKit
set_option linter.unusedSimpArgs false
set_option linter.unusedVariables false

theorem gb_ab : gbC ⟨#[97, 46, 98]⟩ = true := by decide +kernel
theorem gb_mab : gbC ⟨#[45, 97, 98]⟩ = false := by decide +kernel

def AliveArg (w : World) (e : Ending) (w' : World) : Prop :=
  ∃ b c, e = .returned (.tuple #[.slice (some ⟨b, 0, none⟩) 18 c, .nilIface]) ∧ 18 ≤ c ∧ c ≤ maxLen ∧ Below w.heap.size w w' ∧ (convert 84 9 (.slice (some ⟨b, 0, none⟩) 4 c)).run Tryd.prog w' = .ok (.string ⟨#[11, 1, 2, 3]⟩) w'

theorem put_floor_a (w : World) : Calls Tryd.prog 44 #[.agg #[.int .i64 11, .int .i64 1, .int .i64 2, .int .i64 3, .string ⟨#[]⟩, .string ⟨#[]⟩, .int .i64 0, .int .i64 0, .int .i64 0, .int .i64 0, .int .i64 0, .int .i64 0, .int .i64 0, .string ⟨#[]⟩, .int .i64 0, .slice none 0 0, .int .i64 0, .int .i64 0]] w (AliveArg w) := by
  refine (put_floor w).mono ?_
  rintro e w' ⟨A, c, he, ho, hb⟩
  have hl : exBytes.length = 18 := rfl
  rw [hl] at he ho
  rcases ho.1.2 with ⟨_, hn⟩ | ⟨g, cap, cur, hv, _, hh, h1, h2, h3, h4⟩
  · omega
  · injection hv with e1 _ e2
    subst e1; subst e2
    refine ⟨g, c, he, h1, h2, hb, ?_⟩
    refine run_convert_bytes_back w' 84 9 5 ⟨g, 0, none⟩ c [11, 1, 2, 3] Tryd.underlying84 Tryd.underlying5 Tryd.underlying9 (fun j hj => ?_)
    have hj4 : j < 4 := hj
    have hr := (Rd.of_own (lo := w.heap.size) (hi := w'.heap.size) ho.1 ho.2).2 (by omega)
    obtain ⟨ad, e3, _, _, hc⟩ := hr
    injection e3 with e3
    subst e3
    refine hc j _ ?_
    match j, hj4 with
    | 0, _ => rfl
    | 1, _ => rfl
    | 2, _ => rfl
    | 3, _ => rfl

set_option maxRecDepth 100000 in
set_option maxHeartbeats 1600000 in
theorem alive10_any (w : World) : Calls Tryd.prog 35 #[] w fun e w' => e = .returned (.bool true) ∧ Below w.heap.size w w' := by
  have hg1 := fun w => goodBucket_any ⟨#[97, 46, 98]⟩ (by decide) w
  have hg2 := fun w => goodBucket_any ⟨#[45, 97, 98]⟩ (by decide) w
  rw [gb_ab] at hg1
  rw [gb_mab] at hg2
  go_enter Tryd.func35, Tryd.ntmps35
  go_wp2_with (first
    | (go_at_call 44; refine (put_floor_a _).mono ?_; rintro e w1 ⟨b, c, rfl, hc1, hc2, b1, hconv⟩)
    | (go_at_call 36
       first
         | (with_reducible refine (hg1 _).mono ?_; rintro e w2 ⟨rfl, b2⟩)
         | (with_reducible refine (hg2 _).mono ?_; rintro e w3 ⟨rfl, b3⟩))
    | fail)
  go_ret
  exact ⟨rfl, b1.trans ((b2.mono b1.size).trans (b3.mono (Nat.le_trans b1.size b2.size)))⟩

end Go.Proofs.YtnlncfjibbdimaaDoor
