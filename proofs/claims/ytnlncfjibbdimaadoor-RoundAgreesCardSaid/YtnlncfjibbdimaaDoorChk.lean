/-
  command.Check of the example's command.
-/
import Derived.Test.YtnlncfjibbdimaaDoorNames5
import Derived.Test.YtnlncfjibbdimaaDoorLex
namespace Go.Proofs.YtnlncfjibbdimaaDoor
open Go.RowKit
set_option linter.unusedSimpArgs false
set_option linter.unusedVariables false

set_option maxHeartbeats 400000 in
theorem goodParts_nil (A : Option Addr) (c : Nat) (w : World) : Calls Tryd.prog 97 #[.slice A 0 c] w fun e w' => e = .returned (.bool false) ∧ w' = w := by
  go_enter Tryd.func97, Tryd.ntmps97
  go_wp2
  go_loop [7] (fun i => i = .int .i64 0) (fun i => 0)
  case atStart => rfl
  case round =>
    subst hrel
    go_wp2
    go_ret
    exact ⟨rfl, rfl⟩

/-- The example's command: a floor. -/
def cmdF : Cmd := ⟨11, 1, 2, 3, ⟨#[]⟩, ⟨#[]⟩, 0, 0, 0, 0, 0, 0, 0, ⟨#[]⟩, 0, [], 0, 0⟩

set_option maxHeartbeats 400000 in
theorem kind_floor (w : World) : Calls Tryd.prog 94 #[.int .i64 11] w fun e w' => e = .returned (.tuple #[.agg #[.bool false, .bool false, .bool false, .bool false, .bool false, .bool false, .bool false, .bool false], .bool true]) ∧ Below w.heap.size w w' := by
  go_enter Tryd.func94, Tryd.ntmps94
  go_wp2
  exact bodyPost_ret (v := .tuple #[.agg #[.bool false, .bool false, .bool false, .bool false, .bool false, .bool false, .bool false, .bool false], .bool true]) (by simp [results, Tryd.results94, go_sem]) rfl ⟨rfl, (Below.refl _ _).alloc (Nat.le_refl _) _⟩

theorem gb_nil : gbC ⟨#[]⟩ = false := by decide
theorem gk_nil : gk ⟨#[]⟩ = false := by decide

set_option maxHeartbeats 800000 in
theorem either_any (a b c : Bool) (w : World) : Calls Tryd.prog 95 #[.bool a, .bool b, .bool c] w fun e w' => e = .returned (.bool (a && b || !a && c)) ∧ Below w.heap.size w w' := by
  cases a with
  | true =>
    cases b with
    | true =>
      go_enter Tryd.func95, Tryd.ntmps95
      go_wp2
      go_ret
      exact ⟨rfl, Below.refl _ _⟩
    | false =>
      go_enter Tryd.func95, Tryd.ntmps95
      go_wp2
      go_ret
      exact ⟨rfl, Below.refl _ _⟩
  | false =>
    go_enter Tryd.func95, Tryd.ntmps95
    go_wp2
    go_ret
    exact ⟨ret_bool (by simp), Below.refl _ _⟩

set_option maxHeartbeats 800000 in
theorem goodPiece_nil (w : World) : Calls Tryd.prog 96 #[.agg #[.int .i64 0, .int .i64 0, .int .i64 0, .int .i64 0, .string ⟨#[]⟩]] w fun e w' => e = .returned (.bool false) ∧ Below w.heap.size w w' := by
  have hb : Below w.heap.size w (w.alloc (.cells #[.int .i64 0, .int .i64 0, .int .i64 0, .int .i64 0, .string ⟨#[]⟩] 79)) := (Below.refl _ _).alloc (Nat.le_refl _) _
  go_enter Tryd.func96, Tryd.ntmps96
  go_wp2_with (fail)
  refine (goodId_any 0 0 0 _).mono ?_
  rintro e w2 ⟨rfl, b2⟩
  rw [show gid 0 0 0 = true from by decide]
  have hX := (Blk.new w 79 #[.int .i64 0, .int .i64 0, .int .i64 0, .int .i64 0, .string ⟨#[]⟩]).below b2 (by simp)
  have cX := hX.cell
  go_wp2_with (fail)
  go_ret
  exact ⟨rfl, hb.trans (b2.mono (by simp))⟩

def floorCells : Array Value := #[.int .i64 11, .int .i64 1, .int .i64 2, .int .i64 3, .string ⟨#[]⟩, .string ⟨#[]⟩, .int .i64 0, .int .i64 0, .int .i64 0, .int .i64 0, .int .i64 0, .int .i64 0, .int .i64 0, .string ⟨#[]⟩, .int .i64 0, .slice none 0 0, .int .i64 0, .int .i64 0]
def noFields : Array Value := #[.bool false, .bool false, .bool false, .bool false, .bool false, .bool false, .bool false, .bool false]

set_option maxRecDepth 100000 in
set_option maxHeartbeats 3200000 in
theorem check_floor (w : World) : Calls Tryd.prog 43 #[.agg #[.int .i64 11, .int .i64 1, .int .i64 2, .int .i64 3, .string ⟨#[]⟩, .string ⟨#[]⟩, .int .i64 0, .int .i64 0, .int .i64 0, .int .i64 0, .int .i64 0, .int .i64 0, .int .i64 0, .string ⟨#[]⟩, .int .i64 0, .slice none 0 0, .int .i64 0, .int .i64 0]] w fun e w' => e = .returned .nilIface ∧ Below w.heap.size w w' := by
  have k40 := fun w => goodId_any 1 2 3 w
  have k40' := fun w => goodId_any 0 0 0 w
  unfold IdPost at k40 k40'
  rw [show gid 1 2 3 = true from by decide] at k40
  rw [show gid 0 0 0 = true from by decide] at k40'
  have k36 := fun w => goodBucket_any ⟨#[]⟩ (by decide) w
  rw [gb_nil] at k36
  have k38 : ∀ w, Calls Tryd.prog 38 #[.string ⟨#[]⟩] w fun e w' => e = .returned (.bool false) ∧ Below w.heap.size w w' := fun w => (goodKey_any ⟨#[]⟩ (by decide) w).mono fun e w' ⟨h1, h2⟩ => ⟨by rw [h1, gk_nil], by rw [h2]; exact Below.refl _ _⟩
  have k97 : ∀ w, Calls Tryd.prog 97 #[.slice none 0 0] w fun e w' => e = .returned (.bool false) ∧ Below w.heap.size w w' := fun w => (goodParts_nil none 0 w).mono fun e w' ⟨h1, h2⟩ => ⟨h1, by rw [h2]; exact Below.refl _ _⟩
  have k93 : ∀ w, Calls Tryd.prog 93 #[.int .i64 0] w fun e w' => e = .returned (.bool true) ∧ Below w.heap.size w w' := fun w => (time_any 0 w).mono fun e w' ⟨h1, h2⟩ => ⟨by rw [h1]; rfl, by rw [h2]; exact Below.refl _ _⟩
  go_enter Tryd.func43, Tryd.ntmps43
  go_upto_region 2 with (go_at_call 94; refine (kind_floor _).mono ?_; rintro e w2 ⟨rfl, b2⟩)
  refine wp_letter (fun W => Below w.heap.size w W ∧ Blk W w.heap.size 81 floorCells ∧ Blk W w2.heap.size 168 noFields)
    ⟨(((Below.refl _ _).alloc (Nat.le_refl _) _).trans (b2.mono (by simp))).alloc (by have := b2.size; simp at this; omega) _, ((Blk.new w 81 floorCells).below b2 (by simp)).alloc _, Blk.new _ _ _⟩ ?_
  rintro W ⟨hb, hX, hF⟩
  obtain ⟨x, hx⟩ : ∃ x, x = w.heap.size := ⟨_, rfl⟩
  obtain ⟨f, hf⟩ : ∃ f, f = w2.heap.size := ⟨_, rfl⟩
  rw [← hx] at hX
  rw [← hf] at hF
  rw [← hx, ← hf]
  have HB := Lib.hid hb
  clear hx hf b2 hb
  have cX : ∀ d os i, (Go.Sort.grow (redrawn W d) os).cell? ⟨x, i, none⟩ = floorCells[i]? := fun d os => (hX.below (below_regrown W d os) hX.lt).cell
  have cF : ∀ d os i, (Go.Sort.grow (redrawn W d) os).cell? ⟨f, i, none⟩ = noFields[i]? := fun d os => (hF.below (below_regrown W d os) hF.lt).cell
  have hsW := HB.out
  unfold floorCells at cX
  unfold noFields at cF
  simp only [List.cons_append, List.nil_append, List.append_eq]
  refine wp_region_quiet_cheap (by kernel_rfl) (by kernel_rfl) (by kernel_rfl) (by kernel_rfl) ?_
  repeat (go_big_quiet_step (first | (with_reducible exact Calls.regrown_of (k40 _)) | (with_reducible exact Calls.regrown_of (k40' _)) | (with_reducible exact Calls.regrown_of (k36 _)) | (with_reducible exact Calls.regrown_of (k38 _)) | (with_reducible exact Calls.regrown_of (k97 _)) | (with_reducible exact Calls.regrown_of (k93 _)) | (with_reducible exact Calls.regrown_of (goodPiece_nil _)) | (with_reducible exact Calls.regrown_of (either_any _ _ _ _))))
  refine wpQuiet_nil ?_
  intro _ hw'
  obtain ⟨⟨dq, osq⟩, hw''⟩ := hw'
  subst hw''
  go_wp2_with (fail)
  go_ret
  exact ⟨rfl, HB.out.trans ((below_regrown W dq osq).mono HB.out.size)⟩

end Go.Proofs.YtnlncfjibbdimaaDoor
