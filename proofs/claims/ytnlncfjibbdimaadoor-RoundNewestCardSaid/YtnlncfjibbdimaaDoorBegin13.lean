/-
  A round's Begin where it refuses.
-/
import Derived.Test.YtnlncfjibbdimaaDoorClear13
namespace Go.Proofs.YtnlncfjibbdimaaDoor
open Go.RowKit
set_option linter.unusedSimpArgs false
set_option linter.unusedVariables false

set_option maxRecDepth 100000 in
set_option maxHeartbeats 1600000 in
theorem begin_late (w : World) (B g ga n : Nat) (f : Nat → Bool) (r : Rnd) (pv lv : Value) (h : RndAt w B g ga n f r pv lv) (br bn : Int) (a1 : Addr) (h1 : w.cell? ⟨1, 0, none⟩ = some (errv a1)) (hs : 3 ≤ r.stage) :
    Calls Tryd.prog 55 #[.pointer (some ⟨g, 0, none⟩), .agg #[.int .i64 br, .int .i64 bn]] w fun e w' => e = .returned (errv a1) ∧ Below w.heap.size w w' := by
  have bA : Below w.heap.size w (w.alloc (.cells #[.int .i64 br, .int .i64 bn] 23)) := (Below.refl _ _).alloc (Nat.le_refl _) _
  have c22 : (w.alloc (.cells #[.int .i64 br, .int .i64 bn] 23)).cell? ⟨g, 22, none⟩ = some (.int .i64 r.stage) := (h.below bA (Nat.le_refl _)).row.cell 22
  have c1 := (bA.cell (World.block_lt_of_cell? w _ h1)).trans h1
  have HB := Lib.hid bA
  clear h h1 bA
  go_enter Tryd.func55, Tryd.ntmps55
  go_wp2_with (fail)
  go_ret
  exact ⟨rfl, HB.out⟩

set_option maxRecDepth 100000 in
set_option maxHeartbeats 1600000 in
theorem begin_illegal (w : World) (B g ga n : Nat) (f : Nat → Bool) (r : Rnd) (pv lv : Value) (h : RndAt w B g ga n f r pv lv) (br bn : Int) (a3 : Addr) (h3 : w.cell? ⟨3, 0, none⟩ = some (errv a3)) (hs : r.stage < 3) (hl : lg br bn = false) :
    Calls Tryd.prog 55 #[.pointer (some ⟨g, 0, none⟩), .agg #[.int .i64 br, .int .i64 bn]] w fun e w' => e = .returned (errv a3) ∧ Below w.heap.size w w' := by
  have bA : Below w.heap.size w (w.alloc (.cells #[.int .i64 br, .int .i64 bn] 23)) := (Below.refl _ _).alloc (Nat.le_refl _) _
  have c22 : (w.alloc (.cells #[.int .i64 br, .int .i64 bn] 23)).cell? ⟨g, 22, none⟩ = some (.int .i64 r.stage) := (h.below bA (Nat.le_refl _)).row.cell 22
  have k116 : ∀ W, Calls Tryd.prog 116 #[.agg #[.int .i64 br, .int .i64 bn]] W fun e w' => e = .returned (.bool false) ∧ Below W.heap.size W w' := fun W => by rw [← hl]; exact legal116_any br bn W
  have h03 := World.block_lt_of_cell? w _ h3
  have HB := Lib.hid (And.intro h3 h03)
  have hs' : ¬ r.stage ≥ 3 := by omega
  go_enter Tryd.func55, Tryd.ntmps55
  go_upto_region 3 with (fail)
  refine wp_letter (fun W => Below w.heap.size w W ∧ Blk W w.heap.size 23 #[.int .i64 br, .int .i64 bn]) ⟨bA, Blk.new w 23 _⟩ ?_
  rintro W ⟨hb, hX⟩
  obtain ⟨x, hx⟩ : ∃ x, x = w.heap.size := ⟨_, rfl⟩
  rw [← hx] at hX ⊢
  have cX : ∀ d os i, (Go.Sort.grow (redrawn W d) os).cell? ⟨x, i, none⟩ = (#[.int .i64 br, .int .i64 bn] : Array Value)[i]? := fun d os => (hX.below (below_regrown W d os) hX.lt).cell
  have HW := Lib.hid hb
  clear h h3 bA hX h03 hl hb hx c22
  try simp only [List.cons_append, List.nil_append, List.append_eq]
  refine wp_region_quiet_cheap (by kernel_rfl) (by kernel_rfl) (by kernel_rfl) (by kernel_rfl) ?_
  repeat (go_big_quiet_step (first | (with_reducible exact Calls.regrown_of (k116 _))))
  refine wpQuiet_nil ?_
  intro _ hw'
  obtain ⟨⟨dq, osq⟩, hw''⟩ := hw'
  subst hw''
  have hfin := HW.out.trans ((below_regrown W dq osq).mono HW.out.size)
  have c3 := (hfin.cell HB.out.2).trans HB.out.1
  have HF := Lib.hid hfin
  clear hfin
  go_wp2_with (fail)
  go_ret
  exact ⟨rfl, HF.out⟩
set_option maxRecDepth 100000 in
set_option maxHeartbeats 1600000 in
theorem begin_low (w : World) (B g ga n : Nat) (f : Nat → Bool) (r : Rnd) (pv lv : Value) (h : RndAt w B g ga n f r pv lv) (br bn : Int) (a3 : Addr) (h3 : w.cell? ⟨3, 0, none⟩ = some (errv a3)) (hs : r.stage < 3) (hl : lg br bn = true) (ha : ab br bn r.br r.bn = false) :
    Calls Tryd.prog 55 #[.pointer (some ⟨g, 0, none⟩), .agg #[.int .i64 br, .int .i64 bn]] w fun e w' => e = .returned (errv a3) ∧ Below w.heap.size w w' := by
  have bA : Below w.heap.size w (w.alloc (.cells #[.int .i64 br, .int .i64 bn] 23)) := (Below.refl _ _).alloc (Nat.le_refl _) _
  have c22 : (w.alloc (.cells #[.int .i64 br, .int .i64 bn] 23)).cell? ⟨g, 22, none⟩ = some (.int .i64 r.stage) := (h.below bA (Nat.le_refl _)).row.cell 22
  have k116 : ∀ W, Calls Tryd.prog 116 #[.agg #[.int .i64 br, .int .i64 bn]] W fun e w' => e = .returned (.bool true) ∧ Below W.heap.size W w' := fun W => by rw [← hl]; exact legal116_any br bn W
  have k23 : ∀ W, Calls Tryd.prog 23 #[.agg #[.int .i64 br, .int .i64 bn], .agg #[.int .i64 r.br, .int .i64 r.bn]] W fun e w' => e = .returned (.bool false) ∧ Below W.heap.size W w' := fun W => by rw [← ha]; exact above_any br bn r.br r.bn W
  have h03 := World.block_lt_of_cell? w _ h3
  have HB := Lib.hid (And.intro h3 h03)
  have hs' : ¬ r.stage ≥ 3 := by omega
  go_enter Tryd.func55, Tryd.ntmps55
  go_upto_region 3 with (fail)
  refine wp_letter (fun W => Below w.heap.size w W ∧ Blk W w.heap.size 23 #[.int .i64 br, .int .i64 bn]) ⟨bA, Blk.new w 23 _⟩ ?_
  rintro W ⟨hb, hX⟩
  obtain ⟨x, hx⟩ : ∃ x, x = w.heap.size := ⟨_, rfl⟩
  rw [← hx] at hX ⊢
  have cX : ∀ d os i, (Go.Sort.grow (redrawn W d) os).cell? ⟨x, i, none⟩ = (#[.int .i64 br, .int .i64 bn] : Array Value)[i]? := fun d os => (hX.below (below_regrown W d os) hX.lt).cell
  have hR := h.below hb (Nat.le_refl _)
  have c20 : ∀ d os, (Go.Sort.grow (redrawn W d) os).cell? ⟨g, 20, none⟩ = some (.int .i64 r.br) := fun d os => (hR.below (below_regrown W d os) (Nat.le_refl _)).row.cell 20
  have c21 : ∀ d os, (Go.Sort.grow (redrawn W d) os).cell? ⟨g, 21, none⟩ = some (.int .i64 r.bn) := fun d os => (hR.below (below_regrown W d os) (Nat.le_refl _)).row.cell 21
  have HW := Lib.hid hb
  clear h hR h3 bA hX h03 hl ha hb hx c22
  try simp only [List.cons_append, List.nil_append, List.append_eq]
  refine wp_region_quiet_cheap (by kernel_rfl) (by kernel_rfl) (by kernel_rfl) (by kernel_rfl) ?_
  repeat (go_big_quiet_step (first | (with_reducible exact Calls.regrown_of (k116 _)) | (with_reducible exact Calls.regrown_of (k23 _))))
  refine wpQuiet_nil ?_
  intro _ hw'
  obtain ⟨⟨dq, osq⟩, hw''⟩ := hw'
  subst hw''
  have hfin := HW.out.trans ((below_regrown W dq osq).mono HW.out.size)
  have c3 := (hfin.cell HB.out.2).trans HB.out.1
  have HF := Lib.hid hfin
  clear hfin
  go_wp2_with (fail)
  go_ret
  exact ⟨rfl, HF.out⟩
theorem RndAt.sbr {w : World} {B g ga n : Nat} {f : Nat → Bool} {r : Rnd} {pv lv : Value} (h : RndAt w B g ga n f r pv lv) (s : Int) : RndAt (w.setCell ⟨g, 20, none⟩ (.int .i64 s)) B g ga n f { r with br := s } pv lv ∧ Fr w.heap.size (fun k => k = g) w (w.setCell ⟨g, 20, none⟩ (.int .i64 s)) := by
  have hF : Fr w.heap.size (fun k => k = g) w (w.setCell ⟨g, 20, none⟩ (.int .i64 s)) := (Fr.refl w.heap.size (fun k => k = g) w).setCell (p := ⟨g, 20, none⟩) (.inl rfl) _
  have h1 := h.hga
  have h2 := h.hg
  have h3 := h.hB
  refine ⟨⟨h.hg, h.hga, h.ne, Nat.le_trans h.hB hF.size, h.row.set_ 20 _, h.ans.far (p := ⟨g, 20, none⟩) h.ne.symm _, ?_, (h.led.fr hF (Nat.le_refl _) (fun k q1 _ he => by omega)).wider (Nat.le_refl _) hF.size, h.sz⟩, hF⟩
  obtain ⟨p0, q1, q2, q3⟩ := h.parts
  exact ⟨p0, q1, q2, q3.fr hF (by omega) (fun k _ hk he => by omega)⟩
theorem RndAt.sbn {w : World} {B g ga n : Nat} {f : Nat → Bool} {r : Rnd} {pv lv : Value} (h : RndAt w B g ga n f r pv lv) (s : Int) : RndAt (w.setCell ⟨g, 21, none⟩ (.int .i64 s)) B g ga n f { r with bn := s } pv lv ∧ Fr w.heap.size (fun k => k = g) w (w.setCell ⟨g, 21, none⟩ (.int .i64 s)) := by
  have hF : Fr w.heap.size (fun k => k = g) w (w.setCell ⟨g, 21, none⟩ (.int .i64 s)) := (Fr.refl w.heap.size (fun k => k = g) w).setCell (p := ⟨g, 21, none⟩) (.inl rfl) _
  have h1 := h.hga
  have h2 := h.hg
  have h3 := h.hB
  refine ⟨⟨h.hg, h.hga, h.ne, Nat.le_trans h.hB hF.size, h.row.set_ 21 _, h.ans.far (p := ⟨g, 21, none⟩) h.ne.symm _, ?_, (h.led.fr hF (Nat.le_refl _) (fun k q1 _ he => by omega)).wider (Nat.le_refl _) hF.size, h.sz⟩, hF⟩
  obtain ⟨p0, q1, q2, q3⟩ := h.parts
  exact ⟨p0, q1, q2, q3.fr hF (by omega) (fun k _ hk he => by omega)⟩
theorem RndAt.sst {w : World} {B g ga n : Nat} {f : Nat → Bool} {r : Rnd} {pv lv : Value} (h : RndAt w B g ga n f r pv lv) (s : Int) : RndAt (w.setCell ⟨g, 22, none⟩ (.int .i64 s)) B g ga n f { r with stage := s } pv lv ∧ Fr w.heap.size (fun k => k = g) w (w.setCell ⟨g, 22, none⟩ (.int .i64 s)) := by
  have hF : Fr w.heap.size (fun k => k = g) w (w.setCell ⟨g, 22, none⟩ (.int .i64 s)) := (Fr.refl w.heap.size (fun k => k = g) w).setCell (p := ⟨g, 22, none⟩) (.inl rfl) _
  have h1 := h.hga
  have h2 := h.hg
  have h3 := h.hB
  refine ⟨⟨h.hg, h.hga, h.ne, Nat.le_trans h.hB hF.size, h.row.set_ 22 _, h.ans.far (p := ⟨g, 22, none⟩) h.ne.symm _, ?_, (h.led.fr hF (Nat.le_refl _) (fun k q1 _ he => by omega)).wider (Nat.le_refl _) hF.size, h.sz⟩, hF⟩
  obtain ⟨p0, q1, q2, q3⟩ := h.parts
  exact ⟨p0, q1, q2, q3.fr hF (by omega) (fun k _ hk he => by omega)⟩
theorem RndAt.snr {w : World} {B g ga n : Nat} {f : Nat → Bool} {r : Rnd} {pv lv : Value} (h : RndAt w B g ga n f r pv lv) (s : Int) : RndAt (w.setCell ⟨g, 23, none⟩ (.int .i64 s)) B g ga n f { r with nr := s } pv lv ∧ Fr w.heap.size (fun k => k = g) w (w.setCell ⟨g, 23, none⟩ (.int .i64 s)) := by
  have hF : Fr w.heap.size (fun k => k = g) w (w.setCell ⟨g, 23, none⟩ (.int .i64 s)) := (Fr.refl w.heap.size (fun k => k = g) w).setCell (p := ⟨g, 23, none⟩) (.inl rfl) _
  have h1 := h.hga
  have h2 := h.hg
  have h3 := h.hB
  refine ⟨⟨h.hg, h.hga, h.ne, Nat.le_trans h.hB hF.size, h.row.set_ 23 _, h.ans.far (p := ⟨g, 23, none⟩) h.ne.symm _, ?_, (h.led.fr hF (Nat.le_refl _) (fun k q1 _ he => by omega)).wider (Nat.le_refl _) hF.size, h.sz⟩, hF⟩
  obtain ⟨p0, q1, q2, q3⟩ := h.parts
  exact ⟨p0, q1, q2, q3.fr hF (by omega) (fun k _ hk he => by omega)⟩
theorem RndAt.snn {w : World} {B g ga n : Nat} {f : Nat → Bool} {r : Rnd} {pv lv : Value} (h : RndAt w B g ga n f r pv lv) (s : Int) : RndAt (w.setCell ⟨g, 24, none⟩ (.int .i64 s)) B g ga n f { r with nn := s } pv lv ∧ Fr w.heap.size (fun k => k = g) w (w.setCell ⟨g, 24, none⟩ (.int .i64 s)) := by
  have hF : Fr w.heap.size (fun k => k = g) w (w.setCell ⟨g, 24, none⟩ (.int .i64 s)) := (Fr.refl w.heap.size (fun k => k = g) w).setCell (p := ⟨g, 24, none⟩) (.inl rfl) _
  have h1 := h.hga
  have h2 := h.hg
  have h3 := h.hB
  refine ⟨⟨h.hg, h.hga, h.ne, Nat.le_trans h.hB hF.size, h.row.set_ 24 _, h.ans.far (p := ⟨g, 24, none⟩) h.ne.symm _, ?_, (h.led.fr hF (Nat.le_refl _) (fun k q1 _ he => by omega)).wider (Nat.le_refl _) hF.size, h.sz⟩, hF⟩
  obtain ⟨p0, q1, q2, q3⟩ := h.parts
  exact ⟨p0, q1, q2, q3.fr hF (by omega) (fun k _ hk he => by omega)⟩
theorem RndAt.sled {w : World} {B g ga n : Nat} {f : Nat → Bool} {r : Rnd} {pv lv : Value} (h : RndAt w B g ga n f r pv lv) : RndAt (w.setCell ⟨g, 25, none⟩ (.slice none 0 0)) B g ga n f { r with led := [] } pv (.slice none 0 0) ∧ Fr w.heap.size (fun k => k = g) w (w.setCell ⟨g, 25, none⟩ (.slice none 0 0)) := by
  have hF : Fr w.heap.size (fun k => k = g) w (w.setCell ⟨g, 25, none⟩ (.slice none 0 0)) := (Fr.refl w.heap.size (fun k => k = g) w).setCell (p := ⟨g, 25, none⟩) (.inl rfl) _
  have h1 := h.hga
  have h2 := h.hg
  have h3 := h.hB
  refine ⟨⟨h.hg, h.hga, h.ne, Nat.le_trans h.hB hF.size, h.row.set_ 25 _, h.ans.far (p := ⟨g, 25, none⟩) h.ne.symm _, ?_, (OwnLed.nil_ _ _ _).at_, h.sz⟩, hF⟩
  obtain ⟨p0, q1, q2, q3⟩ := h.parts
  exact ⟨p0, q1, q2, q3.fr hF (by omega) (fun k _ hk he => by omega)⟩
theorem RndAt.began {w : World} {B g ga n : Nat} {f : Nat → Bool} {r : Rnd} {pv lv : Value} (h : RndAt w B g ga n f r pv lv) (br bn : Int) :
    RndAt ((((((w.setCell ⟨g, 20, none⟩ (.int .i64 br)).setCell ⟨g, 21, none⟩ (.int .i64 bn)).setCell ⟨g, 22, none⟩ (.int .i64 1)).setCell ⟨g, 23, none⟩ (.int .i64 0)).setCell ⟨g, 24, none⟩ (.int .i64 0)).setCell ⟨g, 25, none⟩ (.slice none 0 0))
      B g ga n f { r with br := br, bn := bn, stage := 1, nr := 0, nn := 0, led := [] } pv (.slice none 0 0) ∧
    Fr w.heap.size (fun k => k = g) w ((((((w.setCell ⟨g, 20, none⟩ (.int .i64 br)).setCell ⟨g, 21, none⟩ (.int .i64 bn)).setCell ⟨g, 22, none⟩ (.int .i64 1)).setCell ⟨g, 23, none⟩ (.int .i64 0)).setCell ⟨g, 24, none⟩ (.int .i64 0)).setCell ⟨g, 25, none⟩ (.slice none 0 0)) := by
  have a := h.sbr br
  have b := a.1.sbn bn
  have c := b.1.sst 1
  have d := c.1.snr 0
  have e := d.1.snn 0
  have z := e.1.sled
  refine ⟨z.1, ?_⟩
  have s1 := a.2.trans (b.2.mono a.2.size (fun _ _ h => h))
  have s2 := s1.trans (c.2.mono s1.size (fun _ _ h => h))
  have s3 := s2.trans (d.2.mono s2.size (fun _ _ h => h))
  have s4 := s3.trans (e.2.mono s3.size (fun _ _ h => h))
  exact s4.trans (z.2.mono s4.size (fun _ _ h => h))
theorem RndAt.bgn {w : World} {B g ga n : Nat} {f : Nat → Bool} {r : Rnd} {pv lv : Value} (h : RndAt w B g ga n f r pv lv) (s : Int) : RndAt (w.setCell ⟨g, 26, none⟩ (.int .i64 s)) B g ga n f { r with begun := s } pv lv ∧ Fr w.heap.size (fun k => k = g) w (w.setCell ⟨g, 26, none⟩ (.int .i64 s)) := by
  have hF : Fr w.heap.size (fun k => k = g) w (w.setCell ⟨g, 26, none⟩ (.int .i64 s)) := (Fr.refl w.heap.size (fun k => k = g) w).setCell (p := ⟨g, 26, none⟩) (.inl rfl) _
  have h1 := h.hga
  have h2 := h.hg
  have h3 := h.hB
  refine ⟨⟨h.hg, h.hga, h.ne, Nat.le_trans h.hB hF.size, h.row.set_ 26 _, h.ans.far (p := ⟨g, 26, none⟩) h.ne.symm _, ?_, (h.led.fr hF (Nat.le_refl _) (fun k q1 _ he => by omega)).wider (Nat.le_refl _) hF.size, h.sz⟩, hF⟩
  obtain ⟨p0, q1, q2, q3⟩ := h.parts
  exact ⟨p0, q1, q2, q3.fr hF (by omega) (fun k _ hk he => by omega)⟩

set_option maxRecDepth 100000 in
set_option maxHeartbeats 1600000 in
theorem begin_good (w : World) (B g ga n : Nat) (f : Nat → Bool) (r : Rnd) (pv lv : Value) (h : RndAt w B g ga n f r pv lv) (br bn : Int) (a3 : Addr) (h3 : w.cell? ⟨3, 0, none⟩ = some (errv a3)) (hs : r.stage < 3) (hl : lg br bn = true) (ha : ab br bn r.br r.bn = true) (hn : 0 < n) :
    Calls Tryd.prog 55 #[.pointer (some ⟨g, 0, none⟩), .agg #[.int .i64 br, .int .i64 bn]] w fun e w' => e = .returned .nilIface ∧ RndAt w' B g ga n (fun _ => false) { r with br := br, bn := bn, stage := 1, nr := 0, nn := 0, led := [], begun := wrap64 (r.begun + 1) } pv (.slice none 0 0) ∧ Fr w.heap.size (fun k => k = g ∨ k = ga) w w' := by
  have bA : Below w.heap.size w (w.alloc (.cells #[.int .i64 br, .int .i64 bn] 23)) := (Below.refl _ _).alloc (Nat.le_refl _) _
  have c22 : (w.alloc (.cells #[.int .i64 br, .int .i64 bn] 23)).cell? ⟨g, 22, none⟩ = some (.int .i64 r.stage) := (h.below bA (Nat.le_refl _)).row.cell 22
  have k116 : ∀ W, Calls Tryd.prog 116 #[.agg #[.int .i64 br, .int .i64 bn]] W fun e w' => e = .returned (.bool true) ∧ Below W.heap.size W w' := fun W => by rw [← hl]; exact legal116_any br bn W
  have k23 : ∀ W, Calls Tryd.prog 23 #[.agg #[.int .i64 br, .int .i64 bn], .agg #[.int .i64 r.br, .int .i64 r.bn]] W fun e w' => e = .returned (.bool true) ∧ Below W.heap.size W w' := fun W => by rw [← ha]; exact above_any br bn r.br r.bn W
  have h03 := World.block_lt_of_cell? w _ h3
  have HB := Lib.hid (And.intro h3 h03)
  have hs' : ¬ r.stage ≥ 3 := by omega
  go_enter Tryd.func55, Tryd.ntmps55
  go_upto_region 3 with (fail)
  refine wp_letter (fun W => Below w.heap.size w W ∧ Blk W w.heap.size 23 #[.int .i64 br, .int .i64 bn]) ⟨bA, Blk.new w 23 _⟩ ?_
  rintro W ⟨hb, hX⟩
  obtain ⟨x, hx⟩ : ∃ x, x = w.heap.size := ⟨_, rfl⟩
  rw [← hx] at hX ⊢
  have HX := Lib.hid (And.intro hx h.hB)
  have cX : ∀ d os i, (Go.Sort.grow (redrawn W d) os).cell? ⟨x, i, none⟩ = (#[.int .i64 br, .int .i64 bn] : Array Value)[i]? := fun d os => (hX.below (below_regrown W d os) hX.lt).cell
  have hR := h.below hb (Nat.le_refl _)
  have c20 : ∀ d os, (Go.Sort.grow (redrawn W d) os).cell? ⟨g, 20, none⟩ = some (.int .i64 r.br) := fun d os => (hR.below (below_regrown W d os) (Nat.le_refl _)).row.cell 20
  have c21 : ∀ d os, (Go.Sort.grow (redrawn W d) os).cell? ⟨g, 21, none⟩ = some (.int .i64 r.bn) := fun d os => (hR.below (below_regrown W d os) (Nat.le_refl _)).row.cell 21
  have HW := Lib.hid (And.intro hb (And.intro hR (And.intro hX hn)))
  clear h hR h3 bA hX h03 hl ha hb hx c22
  try simp only [List.cons_append, List.nil_append, List.append_eq]
  refine wp_region_quiet_cheap (by kernel_rfl) (by kernel_rfl) (by kernel_rfl) (by kernel_rfl) ?_
  repeat (go_big_quiet_step (first | (with_reducible exact Calls.regrown_of (k116 _)) | (with_reducible exact Calls.regrown_of (k23 _))))
  refine wpQuiet_nil ?_
  intro _ hw'
  obtain ⟨⟨dq, osq⟩, hw''⟩ := hw'
  subst hw''
  have hgq := below_regrown W dq osq
  have R1 := HW.out.2.1.below hgq (Nat.le_refl _)
  have X1 := HW.out.2.2.1.below hgq HW.out.2.2.1.lt
  have F1 : Below w.heap.size w (Go.Sort.grow (redrawn W dq) osq) := HW.out.1.trans (hgq.mono HW.out.1.size)
  have c0 : (Go.Sort.grow (redrawn W dq) osq).cell? ⟨g, 0, none⟩ = some (.slice (some ⟨ga, 0, none⟩) n n) := R1.row.cell 0
  obtain ⟨W2, hcl, R2, F2⟩ := clear_bools R1 HW.out.2.2.2
  have hxg : x ≠ ga := by have := HW.out.2.1.hga; have := X1.lt; have h1 := HX.out.1; have h2 := HX.out.2; have := R1.hga; omega
  have X2 := X1.fr F2 X1.lt hxg
  have xc := X2.cell
  have rc := R2.row.cell
  have rf := R2.row.frozen
  simp only [Rnd.cells] at rc
  have H2 := Lib.hid (And.intro R2 (And.intro F1 F2))
  clear hgq R1 X1 F1 R2 F2 X2 cX c20 c21
  go_upto_region 7 with (fail)
  refine wp_letter (fun W3 => RndAt W3 B g ga n (fun _ => false) { r with br := br, bn := bn, stage := 1, nr := 0, nn := 0, led := [] } pv (.slice none 0 0) ∧ Fr W2.heap.size (fun k => k = g) W2 W3) (H2.out.1.began br bn) ?_
  clear rc rf xc c0
  rintro W3 ⟨R3, F3⟩
  have c26 : W3.cell? ⟨g, 26, none⟩ = some (.int .i64 r.begun) := R3.row.cell 26
  have f26 := R3.row.frozen 26
  have H3 := Lib.hid (And.intro R3 F3)
  clear R3 F3
  go_wp2_with (fail)
  go_ret
  have hb := H3.out.1.bgn (wrap64 (r.begun + 1))
  have F12 : Fr w.heap.size (fun k => k = g ∨ k = ga) w W2 := (Fr.of_below H2.out.2.1 _).trans (H2.out.2.2.mono H2.out.2.1.size (fun _ _ h => .inr h))
  have F23 : Fr w.heap.size (fun k => k = g ∨ k = ga) W2 W3 := H3.out.2.mono F12.size (fun _ _ h => .inl h)
  have F13 := F12.trans F23
  refine ⟨rfl, ?_, ?_⟩
  · exact hb.1
  · have := F13.trans (hb.2.mono F13.size (S' := fun k => k = g ∨ k = ga) (fun _ _ h => .inl h))
    exact this
end Go.Proofs.YtnlncfjibbdimaaDoor
