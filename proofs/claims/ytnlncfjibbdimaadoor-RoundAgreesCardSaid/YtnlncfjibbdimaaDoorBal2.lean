/-
  The walks of package ballot: promise, Prepare, Accept, Claim, Promised, Accepted.
-/
import Derived.Test.YtnlncfjibbdimaaDoorBal1
import Derived.Test.YtnlncfjibbdimaaDoorCopy
namespace Go.Proofs.YtnlncfjibbdimaaDoor
open Go.RowKit
set_option linter.unusedSimpArgs false
set_option linter.unusedVariables false

/-- What promise answers: 0, or the number of its error. -/
def Acc.refuse (s : Acc) (r n : Int) : Nat := if lg r n = false then 2 else if ab s.pr s.pn r n = true then 12 else 0

set_option maxHeartbeats 400000 in
theorem promise_num (g : Nat) (r n : Int) (a0 : Addr) (w : World) (h0 : w.cell? ⟨0, 0, none⟩ = some (errv a0)) (hl : lg r n = false) :
    Calls Tryd.prog 89 #[.pointer (some ⟨g, 0, none⟩), .agg #[.int .i64 r, .int .i64 n]] w fun e w' => e = .returned (errv a0) ∧ Below w.heap.size w w' := by
  have h00 := World.block_lt_of_cell? w _ h0
  simp only at h00
  go_enter Tryd.func89, Tryd.ntmps89
  go_wp2_with (fail)
  refine (legal_any r n _).mono ?_
  rintro e w1 ⟨rfl, hb1⟩
  have h1 : w1.cell? ⟨0, 0, none⟩ = some (errv a0) := by rw [hb1.cell (by simp), World.cell?_alloc_lt _ _ _ h00]; exact h0
  have hb : Below w.heap.size w w1 := ((Below.refl _ _).alloc (Nat.le_refl _) _).trans (hb1.mono (by simp))
  clear hb1
  go_wp2_with (fail)
  go_ret
  exact ⟨rfl, hb⟩

set_option maxHeartbeats 400000 in
theorem promise_bal (g : Nat) (s : Acc) (v : Value) (r n : Int) (a3 : Addr) (w : World) (h3 : w.cell? ⟨3, 0, none⟩ = some (errv a3)) (hB : Blk w g 156 (s.cells v)) (hl : lg r n = true) (ha : ab s.pr s.pn r n = true) :
    Calls Tryd.prog 89 #[.pointer (some ⟨g, 0, none⟩), .agg #[.int .i64 r, .int .i64 n]] w fun e w' => e = .returned (errv a3) ∧ Below w.heap.size w w' := by
  have h00 := World.block_lt_of_cell? w _ h3
  simp only at h00
  have hg := hB.lt
  go_enter Tryd.func89, Tryd.ntmps89
  go_wp2_with (fail)
  refine (legal_any r n _).mono ?_
  rintro e w1 ⟨rfl, hb1⟩
  have hb : Below w.heap.size w w1 := ((Below.refl _ _).alloc (Nat.le_refl _) _).trans (hb1.mono (by simp))
  have hB1 : Blk w1 g 156 (s.cells v) := hB.below hb hg
  have hX1 : Blk w1 w.heap.size 23 #[.int .i64 r, .int .i64 n] := (Blk.new w 23 _).below hb1 (by simp)
  have cB := hB1.cell
  have cX := hX1.cell
  simp only [Acc.cells] at cB
  have h1 : w1.cell? ⟨3, 0, none⟩ = some (errv a3) := by rw [hb.cell h00]; exact h3
  have hs1 := hb1.size
  simp only [World.size_alloc] at hs1
  clear hb1
  go_wp2_with (fail)
  go_region_held3 (fun w' => w'.cell? ⟨g, 1, none⟩ = some (.int .i64 s.pr) ∧ w'.cell? ⟨g, 2, none⟩ = some (.int .i64 s.pn) ∧ w'.cell? ⟨w.heap.size, 0, none⟩ = some (.int .i64 r) ∧ w'.cell? ⟨w.heap.size, 1, none⟩ = some (.int .i64 n)) (go_keep)
    (first | (go_at_call 23; refine (above_any _ _ _ _ _).mono ?_; rintro e w2 ⟨rfl, hb2⟩; have qB := fun i => (hb2.cell (p := ⟨g, i, none⟩) hB1.lt).trans (cB i); have qX := fun i => (hb2.cell (p := ⟨w.heap.size, i, none⟩) hX1.lt).trans (cX i)))
  have h2 : w2.cell? ⟨3, 0, none⟩ = some (errv a3) := by rw [hb2.cell (by have := World.block_lt_of_cell? w1 _ h1; simpa using this)]; exact h1
  go_wp2
  go_ret
  exact ⟨rfl, hb.drew.trans (hb2.mono (by simp; omega))⟩

/-- One field of an acceptor is written anew. -/
def OkPost (v : Value) (g : Nat) (w : World) (s' : Acc) (lv : Value) (e : Ending) (w' : World) : Prop :=
  e = .returned v ∧ Fr w.heap.size (· = g) w w' ∧ Blk w' g 156 (s'.cells lv)

set_option maxHeartbeats 400000 in
theorem promise_ok (g : Nat) (s : Acc) (v : Value) (r n : Int) (w : World) (hB : Blk w g 156 (s.cells v)) (hl : lg r n = true) (ha : ab s.pr s.pn r n = false) :
    Calls Tryd.prog 89 #[.pointer (some ⟨g, 0, none⟩), .agg #[.int .i64 r, .int .i64 n]] w (OkPost .nilIface g w { s with pr := r, pn := n } v) := by
  have hg := hB.lt
  go_enter Tryd.func89, Tryd.ntmps89
  go_wp2_with (fail)
  refine (legal_any r n _).mono ?_
  rintro e w1 ⟨rfl, hb1⟩
  have hb : Below w.heap.size w w1 := ((Below.refl _ _).alloc (Nat.le_refl _) _).trans (hb1.mono (by simp))
  have hB1 : Blk w1 g 156 (s.cells v) := hB.below hb hg
  have hX1 : Blk w1 w.heap.size 23 #[.int .i64 r, .int .i64 n] := (Blk.new w 23 _).below hb1 (by simp)
  have cB := hB1.cell
  have cX := hX1.cell
  simp only [Acc.cells] at cB
  have hs1 := hb1.size
  simp only [World.size_alloc] at hs1
  clear hb1
  go_wp2_with (fail)
  go_region_held3 (fun w' => w'.cell? ⟨g, 1, none⟩ = some (.int .i64 s.pr) ∧ w'.cell? ⟨g, 2, none⟩ = some (.int .i64 s.pn) ∧ w'.cell? ⟨w.heap.size, 0, none⟩ = some (.int .i64 r) ∧ w'.cell? ⟨w.heap.size, 1, none⟩ = some (.int .i64 n)) (go_keep)
    (first | (go_at_call 23; refine (above_any _ _ _ _ _).mono ?_; rintro e w2 ⟨rfl, hb2⟩; have qB := fun i => (hb2.cell (p := ⟨g, i, none⟩) hB1.lt).trans (cB i); have qX := fun i => (hb2.cell (p := ⟨w.heap.size, i, none⟩) hX1.lt).trans (cX i)))
  have hB2 : Blk w2 g 156 (s.cells v) := hB1.drew.below hb2 hB1.lt
  have fB := hB2.frozen
  have hB3 := (hB2.set_ 1 (.int .i64 r)).set_ 2 (.int .i64 n)
  have hbb := hb.drew.trans (hb2.mono (by simp; omega))
  clear hb2 cB cX
  go_wp2
  go_ret
  refine ⟨rfl, ((Fr.of_below hbb (· = g)).setCell (p := ⟨g, 1, none⟩) (.inl rfl) _).setCell (p := ⟨g, 2, none⟩) (.inl rfl) _, ?_⟩
  exact hB3

/-! ### Prepare -/

set_option maxHeartbeats 400000 in
theorem prepare_num (g : Nat) (r n : Int) (a0 : Addr) (w : World) (h0 : w.cell? ⟨0, 0, none⟩ = some (errv a0)) (hl : lg r n = false) :
    Calls Tryd.prog 31 #[.pointer (some ⟨g, 0, none⟩), .agg #[.int .i64 r, .int .i64 n]] w fun e w' =>
      e = .returned (.tuple #[.agg #[.int .i64 0, .int .i64 0], .slice none 0 0, errv a0]) ∧ Below w.heap.size w w' := by
  have h00 := World.block_lt_of_cell? w _ h0
  simp only at h00
  go_enter Tryd.func31, Tryd.ntmps31
  go_wp2_with (fail)
  refine (promise_num g r n a0 _ (by rw [World.cell?_alloc_lt _ _ _ (by simp), World.cell?_alloc_lt _ _ _ h00]; exact h0) hl).mono ?_
  rintro e w1 ⟨rfl, hb1⟩
  have hX1 : Blk w1 (w.heap.size + 1) 23 #[.int .i64 0, .int .i64 0] := (Blk.new1 w _ 23 _).below hb1 (by simp)
  have cX := hX1.cell
  have fX := hX1.frozen
  have hb : Below w.heap.size w w1 := (((Below.refl _ _).alloc (Nat.le_refl _) _).alloc (by simp) _).trans (hb1.mono (by simp; omega))
  clear hb1
  go_wp2_with (fail)
  exact bodyPost_ret (v := .tuple #[.agg #[.int .i64 0, .int .i64 0], .slice none 0 0, errv a0]) (by simp [results, Tryd.results31, go_sem, cX]) rfl ⟨rfl, (hb.setCell (p := ⟨w.heap.size + 1, 0, none⟩) (by simp) _).setCell (p := ⟨w.heap.size + 1, 1, none⟩) (by simp) _⟩

set_option maxHeartbeats 400000 in
theorem prepare_bal (g : Nat) (s : Acc) (v : Value) (r n : Int) (a3 : Addr) (w : World) (h3 : w.cell? ⟨3, 0, none⟩ = some (errv a3)) (hB : Blk w g 156 (s.cells v)) (hl : lg r n = true) (ha : ab s.pr s.pn r n = true) :
    Calls Tryd.prog 31 #[.pointer (some ⟨g, 0, none⟩), .agg #[.int .i64 r, .int .i64 n]] w fun e w' =>
      e = .returned (.tuple #[.agg #[.int .i64 0, .int .i64 0], .slice none 0 0, errv a3]) ∧ Below w.heap.size w w' := by
  have h00 := World.block_lt_of_cell? w _ h3
  simp only at h00
  go_enter Tryd.func31, Tryd.ntmps31
  go_wp2_with (fail)
  refine (promise_bal g s v r n a3 _ (by rw [World.cell?_alloc_lt _ _ _ (by simp; omega), World.cell?_alloc_lt _ _ _ h00]; exact h3) ((hB.alloc _).alloc _) hl ha).mono ?_
  rintro e w1 ⟨rfl, hb1⟩
  have hX1 : Blk w1 (w.heap.size + 1) 23 #[.int .i64 0, .int .i64 0] := (Blk.new1 w _ 23 _).below hb1 (by simp)
  have cX := hX1.cell
  have fX := hX1.frozen
  have hb : Below w.heap.size w w1 := (((Below.refl _ _).alloc (Nat.le_refl _) _).alloc (by simp) _).trans (hb1.mono (by simp; omega))
  clear hb1
  go_wp2_with (fail)
  exact bodyPost_ret (v := .tuple #[.agg #[.int .i64 0, .int .i64 0], .slice none 0 0, errv a3]) (by simp [results, Tryd.results31, go_sem, cX]) rfl ⟨rfl, (hb.setCell (p := ⟨w.heap.size + 1, 0, none⟩) (by simp) _).setCell (p := ⟨w.heap.size + 1, 1, none⟩) (by simp) _⟩

/-- What Prepare gives where it promises: what was accepted, and a copy of its ledger. -/
def PrepPost (g : Nat) (w : World) (s : Acc) (r n : Int) (lv : Value) (e : Ending) (w' : World) : Prop :=
  ∃ v, e = .returned (.tuple #[.agg #[.int .i64 s.ar, .int .i64 s.an], v, .nilIface]) ∧ Fr w.heap.size (· = g) w w' ∧ Blk w' g 156 (({ s with pr := r, pn := n } : Acc).cells lv) ∧ OwnLed w' w.heap.size w'.heap.size v s.led

set_option maxHeartbeats 400000 in
theorem prepare_ok (g lo hi : Nat) (s : Acc) (v : Value) (r n : Int) (w : World) (hB : Blk w g 156 (s.cells v)) (hL : LedAt w lo hi v s.led) (hhi : hi ≤ w.heap.size) (hlo : g < lo ∨ hi ≤ g) (hl : lg r n = true) (ha : ab s.pr s.pn r n = false) :
    Calls Tryd.prog 31 #[.pointer (some ⟨g, 0, none⟩), .agg #[.int .i64 r, .int .i64 n]] w (PrepPost g w s r n v) := by
  have hg := hB.lt
  obtain ⟨A, cap, rfl, _⟩ := hL.form
  go_enter Tryd.func31, Tryd.ntmps31
  go_wp2_with (fail)
  refine (promise_ok g s _ r n _ ((hB.alloc _).alloc _) hl ha).mono ?_
  rintro e w1 ⟨rfl, hf1, hB1⟩
  have hX1 : Blk w1 (w.heap.size + 1) 23 #[.int .i64 0, .int .i64 0] := (Blk.new1 w _ 23 _).fr hf1 (by simp) (by omega)
  have hF : Fr w.heap.size (· = g) w w1 := (((Fr.refl _ _ _).alloc (Nat.le_refl _) _).alloc (by simp) _).trans (hf1.mono (by simp; omega) (fun _ _ h => h))
  have hL1 := hL.fr hF hhi (fun k h1 h2 h3 => by omega)
  have cB := hB1.cell
  have cX := hX1.cell
  have fX := hX1.frozen
  simp only [Acc.cells] at cB
  have hs1 := hf1.size
  simp only [World.size_alloc] at hs1
  clear hf1
  have hne : ¬ w.heap.size + 1 = g := by omega
  go_wp2_with (fail)
  go_region_held3 (fun w' => w'.cell? ⟨g, 3, none⟩ = some (.int .i64 s.ar) ∧ w'.cell? ⟨g, 4, none⟩ = some (.int .i64 s.an) ∧ w'.cell? ⟨g, 5, none⟩ = some (.slice A s.led.length cap)) (go_keep)
    (first | (go_at_call 90; refine (copied_any _ lo hi _ s.led (hL1.fr (Fr.refl _ _ _).drew (Nat.le_refl _) (fun _ _ _ h => h)) (by simp; omega)).mono ?_; rintro e w2 ⟨v2, rfl, ho2, hb2⟩; have qB := fun i => (hb2.cell (p := ⟨g, i, none⟩) hB1.lt).trans (cB i); have qX := fun i => (hb2.cell (p := ⟨w.heap.size + 1, i, none⟩) hX1.lt).trans (cX i); have rX := (hX1.drew.below hb2 hX1.lt).frozen; obtain ⟨A2, c2, hv2, _⟩ := OwnRow.form ho2.choose_spec.1; subst hv2))
  have hB2 : Blk w2 g 156 (({ s with pr := r, pn := n } : Acc).cells (.slice A s.led.length cap)) := hB1.drew.below hb2 hB1.lt
  have ho3 := ho2.fr (((Fr.refl w2.heap.size (fun k => k = w.heap.size + 1) w2).setCell (p := ⟨w.heap.size + 1, 0, none⟩) (.inl rfl) (.int .i64 s.ar)).setCell (p := ⟨w.heap.size + 1, 1, none⟩) (.inl rfl) (.int .i64 s.an)) (Nat.le_refl _) (fun k h1 h2 h3 => by simp at h1; omega)
  have hF2 : Fr w.heap.size (· = g) w w2 := hF.drew.trans (Fr.of_below (hb2.mono (by simp; omega)) _)
  have hB3 := (hB2.far (p := ⟨w.heap.size + 1, 0, none⟩) (by simp; omega) (.int .i64 s.ar)).far (p := ⟨w.heap.size + 1, 1, none⟩) (by simp; omega) (.int .i64 s.an)
  go_wp2
  exact bodyPost_ret (v := .tuple #[.agg #[.int .i64 s.ar, .int .i64 s.an], .slice A2 s.led.length c2, .nilIface]) (by simp [results, Tryd.results31, go_sem, qX]) rfl
    ⟨_, rfl, (hF2.setCell (p := ⟨w.heap.size + 1, 0, none⟩) (.inr (by simp)) _).setCell (p := ⟨w.heap.size + 1, 1, none⟩) (.inr (by simp)) _, hB3, ho3.wider (by simp; omega) (by simp)⟩

end Go.Proofs.YtnlncfjibbdimaaDoor
