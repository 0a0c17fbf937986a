/-
  The walks of the document's acceptor: Accept.
-/
import Derived.Test.YtnlncfjibbdimaaDoorRBal
import Derived.Deep.DeepCutAuto
namespace Go.Proofs.YtnlncfjibbdimaaDoor
open Go.RowKit
set_option linter.unusedSimpArgs false
set_option linter.unusedVariables false

/-- What the document's Accept answers: the error's number. -/
def RAccPost (g : Nat) (w : World) (s : Acc) (r n : Int) (l : List Cmd) (e : Ending) (w' : World) : Prop :=
  (lg r n = false → e = .returned (.int .i64 2) ∧ Below w.heap.size w w') ∧
  (lg r n = true → ab s.pr s.pn r n = true → e = .returned (.int .i64 12) ∧ Below w.heap.size w w') ∧
  (lg r n = true → ab s.pr s.pn r n = false → e = .returned (.int .i64 0) ∧ Fr w.heap.size (· = g) w w' ∧ ∃ v, Blk w' g 59 ((⟨s.node, r, n, r, n, l, s.claimed⟩ : Acc).cells v) ∧ OwnLed w' w.heap.size w'.heap.size v l)

set_option maxHeartbeats 800000 in
theorem raccept_any (g lo hi : Nat) (s : Acc) (A : Option Addr) (k c : Nat) (r n : Int) (lv : Value) (l : List Cmd) (w : World) (hB : Blk w g 59 (s.cells (.slice A k c))) (hL : LedAt w lo hi lv l) (hhi : hi ≤ w.heap.size) (hlo : g < lo ∨ hi ≤ g) :
    Calls Tryd.prog 87 #[.pointer (some ⟨g, 0, none⟩), .agg #[.int .i64 r, .int .i64 n], lv] w (RAccPost g w s r n l) := by
  have hg := hB.lt
  obtain ⟨A0, cap, rfl, _⟩ := hL.form
  cases hl : lg r n with
  | false =>
    go_enter Tryd.func87, Tryd.ntmps87
    go_wp2_with (fail)
    refine (rprepare_any g s A k c r n _ (hB.alloc _)).mono ?_
    rintro e w1 ⟨hp, _, _⟩
    obtain ⟨rfl, hb1⟩ := hp hl
    have hb : Below w.heap.size w w1 := ((Below.refl _ _).alloc (Nat.le_refl _) _).trans (hb1.mono (by simp))
    clear hb1 hp
    go_wp2_with (fail)
    go_ret
    exact ⟨fun _ => ⟨rfl, hb.alloc hb.size _⟩, fun h => (by rw [hl] at h; cases h), fun h => (by rw [hl] at h; cases h)⟩
  | true =>
    cases ha : ab s.pr s.pn r n with
    | true =>
      go_enter Tryd.func87, Tryd.ntmps87
      go_wp2_with (fail)
      refine (rprepare_any g s A k c r n _ (hB.alloc _)).mono ?_
      rintro e w1 ⟨_, hp, _⟩
      obtain ⟨rfl, hb1⟩ := hp hl ha
      have hb : Below w.heap.size w w1 := ((Below.refl _ _).alloc (Nat.le_refl _) _).trans (hb1.mono (by simp))
      clear hb1 hp
      go_wp2_with (fail)
      go_ret
      exact ⟨fun h => (by rw [hl] at h; cases h), fun _ _ => ⟨rfl, hb.alloc hb.size _⟩, fun _ h => (by rw [ha] at h; cases h)⟩
    | false =>
      go_enter Tryd.func87, Tryd.ntmps87
      go_wp2_with (fail)
      refine (rprepare_any g s A k c r n _ (hB.alloc _)).mono ?_
      rintro e w1 ⟨_, _, hp⟩
      obtain ⟨rfl, hf1, hB1⟩ := hp hl ha
      have hX1 : Blk w1 w.heap.size 23 #[.int .i64 r, .int .i64 n] := (Blk.new w 23 _).fr hf1 (by simp) (by omega)
      have hF : Fr w.heap.size (· = g) w w1 := ((Fr.refl _ _ _).alloc (Nat.le_refl _) _).trans (hf1.mono (by simp) (fun _ _ h => h))
      have hs1 := hf1.size
      simp only [World.size_alloc] at hs1
      clear hf1 hp
      have hne : ¬ g = w.heap.size := by omega
      have hne1 : ¬ w1.heap.size = g := by omega
      go_upto_region 3 with fail
      have hF2 := hF.alloc (by omega) (.cells #[.int .i64 s.ar, .int .i64 s.an] 23)
      have hB2 := hB1.alloc (.cells #[.int .i64 s.ar, .int .i64 s.an] 23)
      have hX2 := hX1.alloc (.cells #[.int .i64 s.ar, .int .i64 s.an] 23)
      have hL2 := hL.fr hF2 hhi (fun k h1 h2 h3 => by omega)
      refine wp_letter (fun W => Fr w.heap.size (· = g) w W ∧ Blk W g 59 _ ∧ Blk W w.heap.size 23 _ ∧ LedAt W lo hi _ l) ⟨hF2, hB2, hX2, hL2⟩ ?_
      clear hF2 hB2 hX2 hL2 hF hB1 hX1
      rintro W ⟨hF, hB1, hX1, hL1⟩
      have cB := hB1.cell
      have fB := hB1.frozen
      have cX := hX1.cell
      simp only [Acc.cells] at cB
      go_region_held3 (fun w' => w'.cell? ⟨w.heap.size, 0, none⟩ = some (.int .i64 r) ∧ w'.cell? ⟨w.heap.size, 1, none⟩ = some (.int .i64 n)) (go_keep)
        (first | (go_at_call 42; refine (rcopy_any _ lo hi _ l (hL1.fr (Fr.refl _ _ _).drew (Nat.le_refl _) (fun _ _ _ h => h)) (by have := hF.size; simp; omega)).mono ?_; rintro e w2 ⟨v2, rfl, ho2, hb2⟩; have qB := fun i => (hb2.cell (p := ⟨g, i, none⟩) hB1.lt).trans (cB i); have qX := fun i => (hb2.cell (p := ⟨w.heap.size, i, none⟩) hX1.lt).trans (cX i); have rB := (hB1.drew.below hb2 hB1.lt).frozen; obtain ⟨A2, c2, hv2, _⟩ := OwnRow.form ho2.choose_spec.1; subst hv2))
      have hB2 := hB1.drew.below hb2 hB1.lt
      have hsz := hF.size
      have hF2 : Fr w.heap.size (· = g) w w2 := hF.drew.trans (Fr.of_below (hb2.mono (by simp; omega)) _)
      have hB3 := ((hB2.set_ 3 (.int .i64 r)).set_ 4 (.int .i64 n)).set_ 5 (.slice A2 l.length c2)
      have hlw := hX1.lt
      have ho3 := ho2.fr ((((Fr.refl w2.heap.size (· = g) w2).setCell (p := ⟨g, 3, none⟩) (.inl rfl) (.int .i64 r)).setCell (p := ⟨g, 4, none⟩) (.inl rfl) (.int .i64 n)).setCell (p := ⟨g, 5, none⟩) (.inl rfl) (.slice A2 l.length c2)) (Nat.le_refl _) (fun k h1 h2 h3 => by simp at h1; omega)
      have hF3 := ((hF2.setCell (p := ⟨g, 3, none⟩) (.inl rfl) (.int .i64 r)).setCell (p := ⟨g, 4, none⟩) (.inl rfl) (.int .i64 n)).setCell (p := ⟨g, 5, none⟩) (.inl rfl) (.slice A2 l.length c2)
      go_wp2
      go_ret
      exact ⟨fun h => (by rw [hl] at h; cases h), fun _ h => (by rw [ha] at h; cases h), fun _ _ => ⟨rfl, hF3, _, hB3, ho3.wider (by simp; omega) (by simp)⟩⟩

end Go.Proofs.YtnlncfjibbdimaaDoor
