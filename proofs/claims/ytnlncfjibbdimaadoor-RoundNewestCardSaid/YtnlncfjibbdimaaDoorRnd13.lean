/-
  A round in memory, and its small walks: Stage, told, legal, most.
-/
import Derived.Test.YtnlncfjibbdimaaDoorBools
import Derived.Test.YtnlncfjibbdimaaDoorPlace13
namespace Go.Proofs.YtnlncfjibbdimaaDoor
open Go.RowKit
set_option linter.unusedSimpArgs false
set_option linter.unusedVariables false

/-- A round: who answered is told beside it. -/
structure Rnd where
  cmd : Cmd
  reads : Bool
  br : Int
  bn : Int
  stage : Int
  nr : Int
  nn : Int
  led : List Cmd
  begun : Int
/-- A round's twenty-seven cells. -/
def Rnd.cells (r : Rnd) (av pv lv : Value) : List Value :=
  [av, .int .i64 r.cmd.kind, .int .i64 r.cmd.idn, .int .i64 r.cmd.idb, .int .i64 r.cmd.ids, .string r.cmd.bucket, .string r.cmd.key, .int .i64 r.cmd.upn, .int .i64 r.cmd.upb, .int .i64 r.cmd.ups, .int .i64 r.cmd.pbn, .int .i64 r.cmd.pbb, .int .i64 r.cmd.pbs,
    .int .i64 r.cmd.psize, .string r.cmd.etag, .int .i64 r.cmd.part, pv, .int .i64 r.cmd.time, .int .i64 r.cmd.days, .bool r.reads, .int .i64 r.br, .int .i64 r.bn, .int .i64 r.stage, .int .i64 r.nr, .int .i64 r.nn, lv, .int .i64 r.begun]
/-- A round at block g, its row of n answers at block ga; both lie below B, its ledger lies from B on. -/
structure RndAt (w : World) (B g ga n : Nat) (f : Nat → Bool) (r : Rnd) (pv lv : Value) : Prop where
  hg : g < B
  hga : ga < B
  ne : g ≠ ga
  hB : B ≤ w.heap.size
  row : Blk w g 199 (r.cells (.slice (some ⟨ga, 0, none⟩) n n) pv lv).toArray
  ans : Blk w ga 4 (bls f n)
  parts : ∃ p0, p0 ≤ g ∧ p0 ≤ ga ∧ IntsAt w 0 p0 pv r.cmd.parts
  led : LedAt w B w.heap.size lv r.led
  sz : n ≤ 16
theorem RndAt.below {w w' : World} {B B' g ga n : Nat} {f : Nat → Bool} {r : Rnd} {pv lv : Value} (h : RndAt w B g ga n f r pv lv) (b : Below B' w w') (hB' : w.heap.size ≤ B') : RndAt w' B g ga n f r pv lv := by
  have hh := h.hB
  have h1 := h.hg
  have h2 := h.hga
  refine ⟨h.hg, h.hga, h.ne, Nat.le_trans h.hB b.size, h.row.below b (by omega), h.ans.below b (by omega), ?_, (h.led.fr (Fr.of_below b (fun _ => False)) hB' (fun _ _ _ h => h)).wider (Nat.le_refl _) b.size, h.sz⟩
  obtain ⟨p0, q1, q2, q3⟩ := h.parts
  exact ⟨p0, q1, q2, q3.fr (Fr.of_below b (fun _ => False)) (by omega) (fun _ _ _ h => h)⟩

set_option maxHeartbeats 400000 in
theorem stage_any (w : World) (B g ga n : Nat) (f : Nat → Bool) (r : Rnd) (pv lv : Value) (h : RndAt w B g ga n f r pv lv) : Calls Tryd.prog 56 #[.pointer (some ⟨g, 0, none⟩)] w fun e w' => e = .returned (.int .i64 r.stage) ∧ Below w.heap.size w w' := by
  have c : w.cell? ⟨g, 22, none⟩ = some (.int .i64 r.stage) := h.row.cell 22
  clear h
  go_enter Tryd.func56, Tryd.ntmps56
  go_wp2_with (fail)
  go_ret
  exact ⟨rfl, Below.refl _ _⟩

/-- Is there a ledger that is to be accepted? -/
def toldB (s : Int) : Bool := decide (s = 2) || decide (s = 3)
set_option maxHeartbeats 400000 in
theorem told_any (w : World) (B g ga n : Nat) (f : Nat → Bool) (r : Rnd) (pv lv : Value) (h : RndAt w B g ga n f r pv lv) : Calls Tryd.prog 121 #[.pointer (some ⟨g, 0, none⟩)] w (YesNo (toldB r.stage) w) := by
  have c : w.cell? ⟨g, 22, none⟩ = some (.int .i64 r.stage) := h.row.cell 22
  clear h
  by_cases h2 : r.stage = 2
  · rw [h2] at c ⊢
    go_enter Tryd.func121, Tryd.ntmps121
    go_wp2_with (fail)
    go_ret
    exact ⟨rfl, Below.refl _ _⟩
  · by_cases h3 : r.stage = 3
    · rw [h3] at c ⊢
      go_enter Tryd.func121, Tryd.ntmps121
      go_wp2_with (fail)
      go_ret
      exact ⟨rfl, Below.refl _ _⟩
    · have ht : toldB r.stage = false := by unfold toldB; simp [h2, h3]
      rw [ht]
      have b2 : (r.stage == 2) = false := by simp [h2]
      have b3 : (r.stage == 3) = false := by simp [h3]
      go_enter Tryd.func121, Tryd.ntmps121
      go_wp2_with (fail)
      go_ret
      exact ⟨by simp [h2, h3], Below.refl _ _⟩

set_option maxHeartbeats 400000 in
theorem legal116_any (r n : Int) (w : World) :
    Calls Tryd.prog 116 #[.agg #[.int .i64 r, .int .i64 n]] w fun e w' => e = .returned (.bool (lg r n)) ∧ Below w.heap.size w w' := by
  go_enter Tryd.func116, Tryd.ntmps116
  go_wp2
  all_goals
    go_ret
    refine ⟨ret_bool ?_, (Below.refl _ _).alloc (by simp) _⟩
    rw [Bool.eq_iff_iff]
    simp only [lg, Bool.or_eq_true, Bool.and_eq_true, decide_eq_true_eq, true_iff, Bool.false_eq_true, false_iff]
    omega

theorem cnt_step (k : Nat) (f : Nat → Bool) : cnt (k + 1) f = cnt k f + (if f k = true then 1 else 0) := by simp [cnt, List.range_succ, List.countP_append, List.countP_cons]
set_option maxRecDepth 100000 in
set_option maxHeartbeats 1600000 in
theorem most_any (w : World) (B g ga n : Nat) (f : Nat → Bool) (r : Rnd) (pv lv : Value) (h : RndAt w B g ga n f r pv lv) : Calls Tryd.prog 119 #[.pointer (some ⟨g, 0, none⟩)] w (YesNo (decide (half n ≤ (cnt n f : Nat))) w) := by
  have c : w.cell? ⟨g, 0, none⟩ = some (.slice (some ⟨ga, 0, none⟩) n n) := h.row.cell 0
  have hn := h.sz
  have hcell : ∀ k, k < n → w.cell? ⟨ga, k, none⟩ = some (.bool (f k)) := fun k hk => by rw [h.ans.cell k, bls_get hk]
  have HC := Lib.hid hcell
  have k25 := half_any n (by omega)
  have HK := Lib.hid k25
  clear h hcell k25
  go_enter Tryd.func119, Tryd.ntmps119
  go_wp2_with (fail)
  go_loop [3, 11] (fun a i => ∃ k : Nat, k ≤ n ∧ i = .int .i64 k ∧ a = .int .i64 (cnt k f : Nat)) (fun _ i => n - (intOf i).toNat)
  case atStart => exact ⟨0, Nat.zero_le _, rfl, rfl⟩
  case round =>
    obtain ⟨k, hk, rfl, rfl⟩ := hrel
    by_cases hlt : (k : Int) < n
    · have cf := HC.out k (by omega)
      have hle := cnt_le k f
      have hst := cnt_step k f
      have HST := Lib.hid hst
      clear hst
      cases hf : f k with
      | true =>
        rw [hf] at cf
        have HF := Lib.hid hf
        clear hf
        have hw : IntKind.i64.wrap ((cnt k f : Nat) + 1 : Int) = (cnt k f : Nat) + 1 := by rw [IntKind.wrap_i64]; omega
        go_wp2_with (fail)
        go_round
        case rel => exact ⟨k + 1, by omega, by go_num, by rw [HST.out, HF.out]; simp⟩
        case measure => simp [intOf]; omega
      | false =>
        rw [hf] at cf
        have HF := Lib.hid hf
        clear hf
        go_wp2_with (fail)
        go_round
        case rel => exact ⟨k + 1, by omega, by go_num, by rw [HST.out, HF.out]; simp⟩
        case measure => simp [intOf]; omega
    · obtain rfl : k = n := by omega
      go_wp2_with (first | (go_at_call 25; refine (HK.out _).mono ?_; rintro e w2 ⟨rfl, rfl⟩) | fail)
      go_ret
      exact ⟨rfl, Below.refl _ _⟩
end Go.Proofs.YtnlncfjibbdimaaDoor
