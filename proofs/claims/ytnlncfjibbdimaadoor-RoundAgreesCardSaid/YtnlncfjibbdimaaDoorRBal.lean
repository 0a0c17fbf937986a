/-
  The walks of the document's acceptor: Prepare, Accept, Claim.
-/
import Derived.Test.YtnlncfjibbdimaaDoorBal2
import Derived.Test.YtnlncfjibbdimaaDoorRCopy
namespace Go.Proofs.YtnlncfjibbdimaaDoor
open Go.RowKit
set_option linter.unusedSimpArgs false
set_option linter.unusedVariables false

/-- What the document's Prepare answers: what was accepted (the very slice), and the error's number. -/
def RPrepPost (g : Nat) (w : World) (s : Acc) (r n : Int) (lv : Value) (e : Ending) (w' : World) : Prop :=
  (lg r n = false → e = .returned (.tuple #[.agg #[.int .i64 0, .int .i64 0], .slice none 0 0, .int .i64 2]) ∧ Below w.heap.size w w') ∧
  (lg r n = true → ab s.pr s.pn r n = true → e = .returned (.tuple #[.agg #[.int .i64 0, .int .i64 0], .slice none 0 0, .int .i64 12]) ∧ Below w.heap.size w w') ∧
  (lg r n = true → ab s.pr s.pn r n = false → e = .returned (.tuple #[.agg #[.int .i64 s.ar, .int .i64 s.an], lv, .int .i64 0]) ∧ Fr w.heap.size (· = g) w w' ∧ Blk w' g 59 (({ s with pr := r, pn := n } : Acc).cells lv))

set_option maxHeartbeats 800000 in
theorem rprepare_any (g : Nat) (s : Acc) (A : Option Addr) (k c : Nat) (r n : Int) (w : World) (hB : Blk w g 59 (s.cells (.slice A k c))) :
    Calls Tryd.prog 85 #[.pointer (some ⟨g, 0, none⟩), .agg #[.int .i64 r, .int .i64 n]] w (RPrepPost g w s r n (.slice A k c)) := by
  have hg := hB.lt
  cases hl : lg r n with
  | false =>
    go_enter Tryd.func85, Tryd.ntmps85
    go_wp2_with (fail)
    refine (rlegal_any r n _).mono ?_
    rintro e w1 ⟨rfl, hb1⟩
    have hX1 : Blk w1 (w.heap.size + 1) 23 #[.int .i64 0, .int .i64 0] := (Blk.new1 w _ 23 _).below hb1 (by simp)
    have cX := hX1.cell
    have fX := hX1.frozen
    have hb : Below w.heap.size w w1 := (((Below.refl _ _).alloc (Nat.le_refl _) _).alloc (by simp) _).trans (hb1.mono (by simp; omega))
    clear hb1
    go_wp2_with (fail)
    refine bodyPost_ret (v := .tuple #[.agg #[.int .i64 0, .int .i64 0], .slice none 0 0, .int .i64 2]) (by simp [results, Tryd.results85, go_sem, cX]) rfl ⟨fun _ => ⟨rfl, (hb.setCell (p := ⟨w.heap.size + 1, 0, none⟩) (by simp) _).setCell (p := ⟨w.heap.size + 1, 1, none⟩) (by simp) _⟩, fun h => ?_, fun h => ?_⟩
    · rw [hl] at h; cases h
    · rw [hl] at h; cases h
  | true =>
    cases ha : ab s.pr s.pn r n with
    | true =>
      go_enter Tryd.func85, Tryd.ntmps85
      go_wp2_with (fail)
      refine (rlegal_any r n _).mono ?_
      rintro e w1 ⟨rfl, hb1⟩
      have hb : Below w.heap.size w w1 := (((Below.refl _ _).alloc (Nat.le_refl _) _).alloc (by simp) _).trans (hb1.mono (by simp; omega))
      have hB1 := hB.below hb hg
      have hX1 : Blk w1 w.heap.size 23 #[.int .i64 r, .int .i64 n] := ((Blk.new w 23 _).alloc _).below hb1 (by simp; omega)
      have hY1 : Blk w1 (w.heap.size + 1) 23 #[.int .i64 0, .int .i64 0] := (Blk.new1 w _ 23 _).below hb1 (by simp)
      have cB := hB1.cell
      have cX := hX1.cell
      simp only [Acc.cells] at cB
      have hs1 := hb1.size
      simp only [World.size_alloc] at hs1
      clear hb1
      go_wp2_with (fail)
      go_region_held3 (fun w' => w'.cell? ⟨g, 1, none⟩ = some (.int .i64 s.pr) ∧ w'.cell? ⟨g, 2, none⟩ = some (.int .i64 s.pn) ∧ w'.cell? ⟨w.heap.size, 0, none⟩ = some (.int .i64 r) ∧ w'.cell? ⟨w.heap.size, 1, none⟩ = some (.int .i64 n)) (go_keep)
        (first | (go_at_call 24; refine (rabove_any _ _ _ _ _).mono ?_; rintro e w2 ⟨rfl, hb2⟩; have qB := fun i => (hb2.cell (p := ⟨g, i, none⟩) hB1.lt).trans (cB i); have qX := fun i => (hb2.cell (p := ⟨w.heap.size, i, none⟩) hX1.lt).trans (cX i)))
      have hY2 := hY1.drew.below hb2 hY1.lt
      have cY := hY2.cell
      have fY := hY2.frozen
      have hb' := hb.drew.trans (hb2.mono (by simp; omega))
      clear cB cX qB qX hb2
      go_wp2
      refine bodyPost_ret (v := .tuple #[.agg #[.int .i64 0, .int .i64 0], .slice none 0 0, .int .i64 12]) (by simp [results, Tryd.results85, go_sem, cY]) rfl ⟨fun h => ?_, fun _ _ => ⟨rfl, (hb'.setCell (p := ⟨w.heap.size + 1, 0, none⟩) (by simp) _).setCell (p := ⟨w.heap.size + 1, 1, none⟩) (by simp) _⟩, fun _ h => ?_⟩
      · rw [hl] at h; cases h
      · rw [ha] at h; cases h
    | false =>
      go_enter Tryd.func85, Tryd.ntmps85
      go_wp2_with (fail)
      refine (rlegal_any r n _).mono ?_
      rintro e w1 ⟨rfl, hb1⟩
      have hb : Below w.heap.size w w1 := (((Below.refl _ _).alloc (Nat.le_refl _) _).alloc (by simp) _).trans (hb1.mono (by simp; omega))
      have hB1 := hB.below hb hg
      have hX1 : Blk w1 w.heap.size 23 #[.int .i64 r, .int .i64 n] := ((Blk.new w 23 _).alloc _).below hb1 (by simp; omega)
      have hY1 : Blk w1 (w.heap.size + 1) 23 #[.int .i64 0, .int .i64 0] := (Blk.new1 w _ 23 _).below hb1 (by simp)
      have cB := hB1.cell
      have cX := hX1.cell
      simp only [Acc.cells] at cB
      have hs1 := hb1.size
      simp only [World.size_alloc] at hs1
      clear hb1
      go_wp2_with (fail)
      go_region_held3 (fun w' => w'.cell? ⟨g, 1, none⟩ = some (.int .i64 s.pr) ∧ w'.cell? ⟨g, 2, none⟩ = some (.int .i64 s.pn) ∧ w'.cell? ⟨w.heap.size, 0, none⟩ = some (.int .i64 r) ∧ w'.cell? ⟨w.heap.size, 1, none⟩ = some (.int .i64 n)) (go_keep)
        (first | (go_at_call 24; refine (rabove_any _ _ _ _ _).mono ?_; rintro e w2 ⟨rfl, hb2⟩; have qB := fun i => (hb2.cell (p := ⟨g, i, none⟩) hB1.lt).trans (cB i); have qX := fun i => (hb2.cell (p := ⟨w.heap.size, i, none⟩) hX1.lt).trans (cX i)))
      have hB2 := hB1.drew.below hb2 hB1.lt
      have fB := hB2.frozen
      have hY2 := hY1.drew.below hb2 hY1.lt
      have hb' := hb.drew.trans (hb2.mono (by simp; omega))
      clear cB cX hb2
      go_wp2
      refine wp_letter (fun W => Fr w.heap.size (· = g) w W ∧ Blk W g 59 (({ s with pr := r, pn := n } : Acc).cells (.slice A k c)) ∧ Blk W (w.heap.size + 1) 23 #[.int .i64 0, .int .i64 0])
        ⟨((Fr.of_below hb' (· = g)).setCell (p := ⟨g, 1, none⟩) (.inl rfl) _).setCell (p := ⟨g, 2, none⟩) (.inl rfl) _, (hB2.set_ 1 (.int .i64 r)).set_ 2 (.int .i64 n), (hY2.far (p := ⟨g, 1, none⟩) (by simp; omega) _).far (p := ⟨g, 2, none⟩) (by simp; omega) _⟩ ?_
      rintro W ⟨hF, hB3, hY3⟩
      have cB3 := hB3.cell
      have cY3 := hY3.cell
      have fY3 := hY3.frozen
      simp only [Acc.cells] at cB3
      have hne : ¬ w.heap.size + 1 = g := by omega
      clear qB qX fB
      go_region_held3 (fun w' => w'.cell? ⟨g, 3, none⟩ = some (.int .i64 s.ar) ∧ w'.cell? ⟨g, 4, none⟩ = some (.int .i64 s.an) ∧ w'.cell? ⟨g, 5, none⟩ = some (.slice A k c)) (go_keep) (fail)
      go_wp2
      refine bodyPost_ret (v := .tuple #[.agg #[.int .i64 s.ar, .int .i64 s.an], .slice A k c, .int .i64 0]) (by simp [results, Tryd.results85, go_sem, cY3]) rfl ⟨fun h => ?_, fun _ h => ?_, fun _ _ => ⟨rfl, (hF.drew.setCell (p := ⟨w.heap.size + 1, 0, none⟩) (.inr (by simp)) _).setCell (p := ⟨w.heap.size + 1, 1, none⟩) (.inr (by simp)) _, (hB3.drew.far (p := ⟨w.heap.size + 1, 0, none⟩) (by simp; omega) _).far (p := ⟨w.heap.size + 1, 1, none⟩) (by simp; omega) _⟩⟩
      · rw [hl] at h; cases h
      · rw [ha] at h; cases h

end Go.Proofs.YtnlncfjibbdimaaDoor
