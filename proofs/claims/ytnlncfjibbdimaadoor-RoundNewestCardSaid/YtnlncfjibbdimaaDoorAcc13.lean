/-
  A round's Accepted.
-/
import Derived.Test.YtnlncfjibbdimaaDoorHear13
namespace Go.Proofs.YtnlncfjibbdimaaDoor
open Go.RowKit
set_option linter.unusedSimpArgs false
set_option linter.unusedVariables false

theorem RndAt.stg {w : World} {B g ga n : Nat} {f : Nat → Bool} {r : Rnd} {pv lv : Value} (h : RndAt w B g ga n f r pv lv) (s : Int) : RndAt (w.setCell ⟨g, 22, none⟩ (.int .i64 s)) B g ga n f { r with stage := s } pv lv ∧ Fr w.heap.size (fun k => k = g) w (w.setCell ⟨g, 22, none⟩ (.int .i64 s)) := by
  have hF : Fr w.heap.size (fun k => k = g) w (w.setCell ⟨g, 22, none⟩ (.int .i64 s)) := (Fr.refl w.heap.size (fun k => k = g) w).setCell (p := ⟨g, 22, none⟩) (.inl rfl) _
  have h1 := h.hga
  have h2 := h.hg
  have h3 := h.hB
  refine ⟨⟨h.hg, h.hga, h.ne, Nat.le_trans h.hB hF.size, h.row.set_ 22 _, h.ans.far (p := ⟨g, 22, none⟩) h.ne.symm _, ?_, (h.led.fr hF (Nat.le_refl _) (fun k q1 _ he => by omega)).wider (Nat.le_refl _) hF.size, h.sz⟩, hF⟩
  obtain ⟨p0, q1, q2, q3⟩ := h.parts
  exact ⟨p0, q1, q2, q3.fr hF (by omega) (fun k _ hk he => by omega)⟩

/-- What Accepted answers. -/
def AcceptedPost (B g ga n : Nat) (f : Nat → Bool) (r : Rnd) (pv lv : Value) (from_ br bn : Int) (w : World) (e : Ending) (w' : World) : Prop :=
  (¬ fitsR r n f 2 from_ br bn ∧ e = .returned (.bool false) ∧ Below w.heap.size w w') ∨
  (r.stage = 2 ∧ (br = r.br ∧ bn = r.bn) ∧ ∃ j : Nat, from_ = j ∧ j < n ∧ f j = false ∧ e = .returned (.bool true) ∧
    RndAt w' B g ga n (upd f j true) { r with stage := if half n ≤ (cnt n (upd f j true) : Nat) then 3 else 2 } pv lv ∧ Fr w.heap.size (fun k => k = g ∨ k = ga) w w')

set_option maxRecDepth 100000 in
set_option maxHeartbeats 1600000 in
theorem accepted13_any (w : World) (B g ga n : Nat) (f : Nat → Bool) (r : Rnd) (pv lv : Value) (h : RndAt w B g ga n f r pv lv) (from_ br bn : Int) :
    Calls Tryd.prog 62 #[.pointer (some ⟨g, 0, none⟩), .int .i64 from_, .agg #[.int .i64 br, .int .i64 bn]] w (AcceptedPost B g ga n f r pv lv from_ br bn w) := by
  have bA : Below w.heap.size w (w.alloc (.cells #[.int .i64 br, .int .i64 bn] 23)) := (Below.refl _ _).alloc (Nat.le_refl _) _
  have hX := Blk.new w 23 #[.int .i64 br, .int .i64 bn]
  have x0 := hX.cell 0
  have x1 := hX.cell 1
  have k117 := hear_any (w.alloc (.cells #[.int .i64 br, .int .i64 bn] 23)) B g ga n f r pv lv (h.below bA (Nat.le_refl _)) 2 from_ br bn
  have hgB := h.hg
  have hBw := h.hB
  have HK := Lib.hid (And.intro k117 bA)
  clear h bA hX k117
  go_enter Tryd.func62, Tryd.ntmps62
  go_upto_region 2 with (first | (go_at_call 117; refine HK.out.1.mono ?_; rintro e w1 (⟨hf, rfl, b1⟩ | ⟨hs, hb, j, rfl, hj, hfj, rfl, R1, F1⟩)) | fail)
  · go_wp2_with (fail)
    go_ret
    exact .inl ⟨hf, rfl, HK.out.2.trans (b1.mono HK.out.2.size)⟩
  · have k119 := most_any w1 B g ga n (upd f j true) r pv lv R1
    have F0 : Fr w.heap.size (fun k => k = g ∨ k = ga) w w1 := (Fr.of_below HK.out.2 _).trans (F1.mono HK.out.2.size (fun _ _ h => .inr h))
    have H1 := Lib.hid (And.intro R1 (And.intro F0 (And.intro hs (And.intro hb hfj))))
    clear R1 F1 F0 hs hb hfj
    by_cases hm : half n ≤ (cnt n (upd f j true) : Nat)
    · rw [decide_eq_true hm] at k119
      have HK2 := Lib.hid (And.intro k119 hm)
      clear k119 hm
      go_wp2_with (first
        | (go_at_call 119
           refine HK2.out.1.mono ?_
           rintro e w2 ⟨rfl, b2⟩
           have R2 := H1.out.1.below b2 (Nat.le_refl _)
           have c22 := R2.row.cell 22
           have f22 := R2.row.frozen 22
           have c22' : w2.cell? ⟨g, 22, none⟩ = some (.int .i64 r.stage) := c22
           have H2 := Lib.hid (And.intro R2 b2)
           clear R2 b2 c22)
        | fail)
      go_ret
      have hst := H2.out.1.stg 3
      refine .inr ⟨H1.out.2.2.1, H1.out.2.2.2.1, j, rfl, hj, H1.out.2.2.2.2, rfl, ?_, ?_⟩
      · rw [if_pos HK2.out.2]; exact hst.1
      · exact H1.out.2.1.trans (((Fr.of_below H2.out.2 (fun k => k = g ∨ k = ga)).trans (hst.2.mono H2.out.2.size (fun _ _ h => .inl h))).mono H1.out.2.1.size (fun _ _ h => h))
    · rw [decide_eq_false hm] at k119
      have HK2 := Lib.hid (And.intro k119 hm)
      clear k119 hm
      go_wp2_with (first
        | (go_at_call 119
           refine HK2.out.1.mono ?_
           rintro e w2 ⟨rfl, b2⟩
           have H2 := Lib.hid (And.intro (H1.out.1.below b2 (Nat.le_refl _)) b2)
           clear b2)
        | fail)
      go_ret
      refine .inr ⟨H1.out.2.2.1, H1.out.2.2.2.1, j, rfl, hj, H1.out.2.2.2.2, rfl, ?_, ?_⟩
      · rw [if_neg (Int.not_le.2 HK2.out.2)]
        have hs2 : r.stage = 2 := H1.out.2.2.1
        have he : ({ r with stage := 2 } : Rnd) = r := by cases r; simp at hs2; simp [hs2]
        rw [he]
        exact H2.out.1
      · exact H1.out.2.1.trans ((Fr.of_below H2.out.2 (fun k => k = g ∨ k = ga)).mono H1.out.2.1.size (fun _ _ h => h))
end Go.Proofs.YtnlncfjibbdimaaDoor
