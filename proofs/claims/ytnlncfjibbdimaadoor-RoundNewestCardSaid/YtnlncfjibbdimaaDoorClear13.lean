/-
  clear of a round's row of answers.
-/
import Derived.Test.YtnlncfjibbdimaaDoorHear13
import Derived.Lib.SliceRun
namespace Go.Proofs.YtnlncfjibbdimaaDoor
open Go.RowKit
set_option linter.unusedSimpArgs false
set_option linter.unusedVariables false

theorem bls_false (n : Nat) : bls (fun _ => false) n = (List.replicate n (Value.bool false)).toArray := by
  apply Array.ext_getElem?
  intro i
  by_cases hi : i < n
  · rw [bls_get hi]; simp [hi]
  · rw [Array.getElem?_eq_none (by rw [bls_size]; omega), Array.getElem?_eq_none (by simp; omega)]
theorem clear_bools {W : World} {B g ga n : Nat} {f : Nat → Bool} {r : Rnd} {pv lv : Value} (h : RndAt W B g ga n f r pv lv) (hn : 0 < n) :
    ∃ W', (∀ ty, (Builtin.clear_ #[108] ty #[.slice (some ⟨ga, 0, none⟩) n n]).run Tryd.prog W = .ok (.tuple #[]) W') ∧ RndAt W' B g ga n (fun _ => false) r pv lv ∧ Fr W.heap.size (fun k => k = ga) W W' := by
  have hc : ∀ j, j < n → (W.cell? ⟨ga, 0 + j, none⟩) = some (.bool (f j)) := fun j hj => by rw [Nat.zero_add, h.ans.cell j, bls_get hj]
  have hf : ∀ j, j < n → W.frozen? ⟨ga, 0 + j, none⟩ = false := fun j _ => h.ans.frozen _
  have hcl := fun ty => Lib.run_clear_slice (P := Tryd.prog) W 108 4 ty (.bool false) Tryd.underlying108 (fun w => by kernel_rfl) rfl rfl ga 0 n n hn (fun j hj => by rw [hc j hj]; rfl) hf
  have hst := run_storeCells_cells (P := Tryd.prog) ga 0 (List.replicate n (.bool false)) 0 W (fun j hj => by have hj' : j < n := by { simpa using hj }; have := hc j hj'; simp only [Nat.zero_add] at this ⊢; rw [this]; rfl) (fun j _ => h.ans.frozen _) (by intro v hv; rw [List.eq_of_mem_replicate hv]; rfl)
  have hst2 := run_storeCells_from (P := Tryd.prog) ga 4 (List.replicate n (.bool false)) 0 (bls f n) W h.ans (by simp [bls_size]) (by intro v hv; rw [List.eq_of_mem_replicate hv]; rfl)
  rw [hst] at hst2
  injection hst2 with _ e
  rw [List.take_zero, List.nil_append, ← bls_false, Nat.zero_add] at e
  have hF : Fr W.heap.size (fun k => k = ga) W (W.setRow ga (bls (fun _ => false) n)) := by
    refine ⟨rfl, rfl, rfl, by simp [World.setRow], fun k hk hs => ?_⟩
    simp only [World.setRow, Array.getElem?_modify]
    rw [if_neg (by omega)]
  have h1 := h.hga
  have h2 := h.hg
  have h3 := h.hB
  have hne := h.ne
  refine ⟨W.setRow ga (bls (fun _ => false) n), fun ty => by rw [hcl ty, e], ⟨h.hg, h.hga, h.ne, Nat.le_trans h.hB hF.size, h.row.fr hF (by omega) (by omega), setRow_heap W ga (bls f n) _ 4 (0, 0) h.ans, ?_, (h.led.fr hF (Nat.le_refl _) (fun k q1 _ he => by omega)).wider (Nat.le_refl _) hF.size, h.sz⟩, hF⟩
  obtain ⟨p0, q1, q2, q3⟩ := h.parts
  exact ⟨p0, q1, q2, q3.fr hF (by omega) (fun k _ hk he => by omega)⟩
end Go.Proofs.YtnlncfjibbdimaaDoor
