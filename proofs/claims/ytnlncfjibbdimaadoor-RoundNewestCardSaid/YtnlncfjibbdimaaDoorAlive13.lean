/-
  Layer 13's alive.
-/
import Derived.Test.YtnlncfjibbdimaaDoorRS13
import Derived.Deep.DeepCutAuto
namespace Go.Proofs.YtnlncfjibbdimaaDoor
open Go.RowKit
set_option linter.unusedSimpArgs false
set_option linter.unusedVariables false

/-- The command of the examples. -/
def mk1 : Cmd := ⟨1, 0, 0, 0, ⟨#[97, 97, 97]⟩, ⟨#[]⟩, 0, 0, 0, 0, 0, 0, 0, ⟨#[]⟩, 0, [], 0, 0⟩
theorem mk1_sized : mk1.Sized := by unfold Cmd.Sized mk1; decide
theorem mk1_chk : chkB mk1 = true := by decide +kernel

set_option maxRecDepth 100000 in
theorem res54 (a : Array Value) (x : Nat) (cells : List Value) (W : World) (hl : cells.length = 18) (hX : Blk W x 81 cells.toArray) (h2 : a.getD 0 undef = .pointer (some ⟨x, 0, none⟩)) : (results Tryd.f54 a).run Tryd.prog W = .ok (.agg cells.toArray) W := by
  have hld := run_loadVar_mid (P := Tryd.prog) W x 0 81 cells _ hX.range Tryd.underlying81 rfl (by rw [hl]; exact cmd_info)
  simp at h2
  simp [go_sem] at hld
  simp [results, Tryd.results54, go_sem, hld, h2]

set_option maxRecDepth 100000 in
set_option maxHeartbeats 800000 in
theorem make1_any (w : World) : Calls Tryd.prog 54 #[] w fun e w' => e = .returned (.agg (mk1.cells (.slice none 0 0)).toArray) ∧ Below w.heap.size w w' := by
  go_enter Tryd.func54, Tryd.ntmps54
  go_wp2_with (first | ((with_reducible refine law_store_fresh 81 (.tmp 0) (.tmp 1) w 81 _ (mk1.cells (.slice none 0 0)).toArray ?_ ?_ rfl ?_ ?_ (cells_oneCell _ _ _ _) ?_); rfl; rfl; exact cmd_info; rfl) | fail)
  have hX := Blk.new w 81 (mk1.cells (.slice none 0 0)).toArray
  exact bodyPost_ret (res54 _ w.heap.size _ _ rfl hX rfl) rfl ⟨rfl, (Below.refl _ _).alloc (Nat.le_refl _) _⟩

theorem mk1_put : putL [] mk1 = some [mk1] := by unfold putL; rw [if_neg (by decide +kernel), if_neg (by decide)]; rfl
theorem mk1_idx : idxN [mk1] 0 0 0 = 0 := by decide +kernel
/-- The example's round, from step to step. -/
def rA (r : Rnd) : Rnd := { r with br := 1, bn := 0, stage := 1, nr := 0, nn := 0, led := [], begun := wrap64 (r.begun + 1) }
def r0 : Rnd := ⟨mk1, false, 0, 0, 0, 0, 0, [], 0⟩
def r1 : Rnd := ⟨mk1, false, 1, 0, 1, 0, 0, [], 1⟩
def r2 : Rnd := ⟨mk1, false, 1, 0, 2, 0, 0, [mk1], 1⟩
def r3 : Rnd := ⟨mk1, false, 1, 0, 3, 0, 0, [mk1], 1⟩
theorem one_wrap : wrap64 ((0 : Int) + 1) = 1 := by decide +kernel
theorem r0_r1 : ({ r0 with br := 1, bn := 0, stage := 1, nr := 0, nn := 0, led := [], begun := wrap64 (r0.begun + 1) } : Rnd) = r1 := by
  show (⟨mk1, false, 1, 0, 1, 0, 0, [], wrap64 ((0 : Int) + 1)⟩ : Rnd) = _
  rw [one_wrap]; rfl
theorem r1_one : r1.promised 3 (fun _ => false) 0 0 0 [] = r1 := by
  unfold Rnd.promised
  rw [if_neg (by decide +kernel)]
  unfold Rnd.newer
  rw [if_neg (by decide)]
theorem f1_one : promF 3 (fun _ => false) 0 = upd (fun _ => false) 0 true := by
  unfold promF
  rw [if_neg (by decide +kernel)]
theorem r1_two : r1.promised 3 (upd (fun _ => false) 0 true) 2 0 0 [] = r2 := by
  unfold Rnd.promised
  rw [if_pos (by decide +kernel)]
  unfold Rnd.newer
  rw [if_neg (by decide)]
  unfold Rnd.tell
  rw [if_neg (by decide)]
  have : putL r1.led r1.cmd = some [mk1] := mk1_put
  rw [this]
  rfl
theorem f1_two : promF 3 (upd (fun _ => false) 0 true) 2 = fun _ => false := by
  unfold promF
  rw [if_pos (by decide +kernel)]
theorem r2_one : ({ r2 with stage := if half (3 : Nat) ≤ (cnt 3 (upd (fun _ => false) 1 true) : Nat) then 3 else 2 } : Rnd) = r2 := by rw [if_neg (by decide +kernel)]; rfl
theorem r2_two : ({ r2 with stage := if half (3 : Nat) ≤ (cnt 3 (upd (upd (fun _ => false) 1 true) 2 true) : Nat) then 3 else 2 } : Rnd) = r3 := by rw [if_pos (by decide +kernel)]; rfl
theorem LedAt.nil13 (w : World) : LedAt w 0 0 (.slice none 0 0) [] := (OwnLed.nil_ _ _ _).at_

set_option maxRecDepth 100000 in
set_option maxHeartbeats 1600000 in
theorem alive13_any (w : World) (A : Nat → Addr) (hE : E13 w A) : Calls Tryd.prog 52 #[] w fun e w' => e = .returned (.bool true) ∧ Below w.heap.size w w' := by
  have k54 := make1_any w
  have k53 : ∀ W, Below w.heap.size w W → Calls Tryd.prog 53 #[.int .i64 3, .agg (mk1.cells (.slice none 0 0)).toArray, .bool false] W (New13Post 3 mk1 false W) := fun W b =>
    new13_cmd W 3 mk1 mk1_sized (.slice none 0 0) 0 0 ⟨none, 0, rfl, Nat.le_refl _, by simp [maxLen], by simp [mk1], by simp [mk1, ints], fun h => by simp [mk1] at h⟩ (Nat.zero_le _) ⟨by omega, by omega⟩ (A 1) ((hE.below b) 1 (by simp)) mk1_chk
  have HK := Lib.hid (And.intro k54 k53)
  clear k54 k53
  have HE := Lib.hid hE
  clear hE
  go_enter Tryd.func52, Tryd.ntmps52
  go_upto_region 3 with (first
    | (go_at_call 54; refine HK.out.1.mono ?_; rintro e w1 ⟨rfl, b1⟩; have H1 := Lib.hid b1; clear b1)
    | (go_at_call 53
       refine (HK.out.2 w1 H1.out).mono ?_
       rintro e w2 h2
       obtain ⟨ga, pv, rfl, R, b2⟩ := RS.of_new H1.out (by omega) h2
       have H2 := Lib.hid R
       clear R b2 h2)
    | fail)
  have P0 := H2.out
  refine wp_letter (fun W => RS w w2.heap.size (ga + 1) ga 3 (fun _ => false) r0 pv (.slice none 0 0) W ∧ Blk W w2.heap.size 23 #[.int .i64 1, .int .i64 0]) ⟨P0.below ((Below.refl _ _).alloc (Nat.le_refl _) _), Blk.new w2 23 _⟩ ?_
  clear P0
  rintro W3 ⟨R3, X3⟩
  obtain ⟨x, hx⟩ : ∃ x, x = w2.heap.size := ⟨_, rfl⟩
  rw [← hx] at X3 R3 ⊢
  have hga : ga + 1 < x := R3.at_.hg
  clear hx
  obtain ⟨g, hg⟩ : ∃ g, g = ga + 1 := ⟨_, rfl⟩
  rw [← hg] at R3 ⊢
  have hxg : x ≠ g ∧ x ≠ ga := by omega
  have hgg : ga < 0 ∨ 0 ≤ ga := by omega
  clear hg hga H2 H1
  have k4 := R3.begin_ HE.out (br := 1) (bn := 0) (by decide) (by decide) (by decide)
  have x04 := X3.cell 0
  have x14 := X3.cell 1
  have HC4 := Lib.hid (And.intro k4 X3)
  clear k4 X3 R3
  go_upto_region 5 with (first
    | (go_at_call 55
       refine HC4.out.1.mono ?_
       rintro e W4 ⟨rfl, R4, F4⟩)
    | fail)
  clear x04 x14
  have X4 := HC4.out.2.fr F4 HC4.out.2.lt (by have := hxg.1; have := hxg.2; omega)
  clear F4
  have R4' : RS w x g ga 3 (fun _ => false) r1 pv (.slice none 0 0) W4 := by rw [← r0_r1]; exact R4
  clear R4
  have R4 := R4'
  clear R4'
  have k5 := R4.promise_yes HE.out (j := 0) (br := 1) (bn := 0) (ar := 0) (an := 0) (LedAt.nil13 _) (Nat.zero_le _) (.inr (Nat.zero_le _)) (by rfl) ⟨rfl, rfl⟩ (by omega) rfl
  have x05 := X4.cell 0
  have x15 := X4.cell 1
  have HC5 := Lib.hid (And.intro k5 X4)
  clear k5 X4 R4
  go_upto_region 6 with (first
    | (go_at_call 58
       refine HC5.out.1.mono ?_
       rintro e W5 ⟨rfl, lv5, R5, F5, _⟩)
    | fail)
  clear x05 x15
  have X5 := HC5.out.2.fr F5 HC5.out.2.lt (by have := hxg.1; have := hxg.2; omega)
  clear F5
  rw [r1_one, f1_one] at R5
  have k6 := R5.promise_no HE.out (from_ := 0) (br := 1) (bn := 0) (ar := 0) (an := 0) (LedAt.nil13 _) (Nat.zero_le _) (.inr (Nat.zero_le _)) (fun h => by obtain ⟨_, _, j, hj, _, hf⟩ := h; obtain rfl : j = 0 := (by omega); cases hf)
  have x06 := X5.cell 0
  have x16 := X5.cell 1
  have HC6 := Lib.hid (And.intro k6 (And.intro X5 R5))
  clear k6 X5 R5
  go_upto_region 7 with (first
    | (go_at_call 58
       refine HC6.out.1.mono ?_
       rintro e W6 ⟨rfl, b6⟩)
    | fail)
  clear x06 x16
  have X6 := HC6.out.2.1.below b6 HC6.out.2.1.lt
  have R6 := HC6.out.2.2.below b6
  clear b6
  have k7 := R6.promise_yes HE.out (j := 2) (br := 1) (bn := 0) (ar := 0) (an := 0) (LedAt.nil13 _) (Nat.zero_le _) (.inr (Nat.zero_le _)) (by rfl) ⟨rfl, rfl⟩ (by omega) rfl
  have x07 := X6.cell 0
  have x17 := X6.cell 1
  have HC7 := Lib.hid (And.intro k7 X6)
  clear k7 X6 R6
  go_upto_region 8 with (first
    | (go_at_call 58
       refine HC7.out.1.mono ?_
       rintro e W7 ⟨rfl, lv7, R7, F7, _⟩)
    | fail)
  clear x07 x17
  have X7 := HC7.out.2.fr F7 HC7.out.2.lt (by have := hxg.1; have := hxg.2; omega)
  clear F7
  rw [r1_two, f1_two] at R7
  have k8 := R7.accepted_yes (j := 1) (br := 1) (bn := 0) (by rfl) ⟨rfl, rfl⟩ (by omega) rfl
  have x08 := X7.cell 0
  have x18 := X7.cell 1
  have HC8 := Lib.hid (And.intro k8 X7)
  clear k8 X7 R7
  go_upto_region 9 with (first
    | (go_at_call 62
       refine HC8.out.1.mono ?_
       rintro e W8 ⟨rfl, R8, F8⟩)
    | fail)
  clear x08 x18
  have X8 := HC8.out.2.fr F8 HC8.out.2.lt (by have := hxg.1; have := hxg.2; omega)
  clear F8
  rw [r2_one] at R8
  have k9 := R8.accepted_yes (j := 2) (br := 1) (bn := 0) (by rfl) ⟨rfl, rfl⟩ (by omega) rfl
  have x09 := X8.cell 0
  have x19 := X8.cell 1
  have HC9 := Lib.hid (And.intro k9 X8)
  clear k9 X8 R8
  go_upto_region 10 with (first
    | (go_at_call 62
       refine HC9.out.1.mono ?_
       rintro e W9 ⟨rfl, R9, F9⟩)
    | fail)
  clear x09 x19
  have X9 := HC9.out.2.fr F9 HC9.out.2.lt (by have := hxg.1; have := hxg.2; omega)
  clear F9
  rw [r2_two] at R9
  have k10 := R9.stage
  have k11 : ∀ W, Below W9.heap.size W9 W → Calls Tryd.prog 61 #[.pointer (some ⟨g, 0, none⟩)] W fun e w' => e = .returned (.int .i64 1) ∧ Below W.heap.size W w' := fun W b => (R9.below b).place HE.out
  have HF := Lib.hid (And.intro k10 (And.intro k11 R9.bel))
  clear k10 k11 R9 X9
  go_wp2_with (first
    | (go_at_call 56; refine HF.out.1.mono ?_; rintro e W10 ⟨rfl, b10⟩; have H10 := Lib.hid b10; clear b10)
    | (go_at_call 61; refine (HF.out.2.1 W10 H10.out).mono ?_; rintro e W11 ⟨rfl, b11⟩; have H11 := Lib.hid b11; clear b11)
    | fail)
  go_ret
  exact ⟨rfl, (HF.out.2.2.trans (H10.out.mono HF.out.2.2.size)).trans (H11.out.mono (HF.out.2.2.trans (H10.out.mono HF.out.2.2.size)).size)⟩
end Go.Proofs.YtnlncfjibbdimaaDoor
