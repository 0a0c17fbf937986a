/-
  The walk of bollardnum.Num: an error's number.
-/
import Derived.Test.YtnlncfjibbdimaaDoorErrs
import Derived.Deep.DeepCutAuto
namespace Go.Proofs.YtnlncfjibbdimaaDoor
open Go.RowKit
set_option linter.unusedSimpArgs false
set_option linter.unusedVariables false

/-- The sentinels in the order of their numbers. -/
def G18 : List Nat := [5, 0, 6, 7, 2, 8, 9, 10, 11, 4, 12, 3, 13, 14, 15, 16, 17, 1]

def NumPost (q : Int) (w : World) (e : Ending) (w' : World) : Prop := e = .returned (.int .i64 q) ∧ Below w.heap.size w w'

set_option maxHeartbeats 400000 in
theorem num_nil (w : World) : Calls Tryd.prog 64 #[.nilIface] w (NumPost 0 w) := by
  go_enter Tryd.func64, Tryd.ntmps64
  go_wp2_with (fail)
  go_ret
  exact ⟨rfl, Below.refl _ _⟩

set_option maxRecDepth 100000 in
set_option maxHeartbeats 1600000 in
theorem num_any {w : World} {B : Nat} {A : Nat → Addr} (h : Errs w B A G18) (hB : B ≤ w.heap.size) (i : Nat) (g : Nat) (hi : G18[i]? = some g) : Calls Tryd.prog 64 #[errv (A g)] w (NumPost (i + 1) w) := by
  have hmem : ∀ k (hk : k < 18), G18[k] ∈ G18 := fun k hk => List.getElem_mem _
  have hi18 : i < 18 := (List.getElem?_eq_some_iff.1 hi).1
  have c5 := h.cell 5 (by decide)
  have c0 := h.cell 0 (by decide)
  have c6 := h.cell 6 (by decide)
  have c7 := h.cell 7 (by decide)
  have c2 := h.cell 2 (by decide)
  have c8 := h.cell 8 (by decide)
  have c9 := h.cell 9 (by decide)
  have c10 := h.cell 10 (by decide)
  have c11 := h.cell 11 (by decide)
  have c4 := h.cell 4 (by decide)
  have c12 := h.cell 12 (by decide)
  have c3 := h.cell 3 (by decide)
  have c13 := h.cell 13 (by decide)
  have c14 := h.cell 14 (by decide)
  have c15 := h.cell 15 (by decide)
  have c16 := h.cell 16 (by decide)
  have c17 := h.cell 17 (by decide)
  have c1 := h.cell 1 (by decide)
  have hn : errv (A g) ≠ .nilIface := by simp [errv]
  go_enter Tryd.func64, Tryd.ntmps64
  go_upto_region 4 with (fail)
  refine wp_letter (fun W => Below w.heap.size w W ∧ ∀ k gk, G18[k]? = some gk → W.cell? ⟨w.heap.size, k, none⟩ = some (errv (A gk)))
    ⟨(Below.refl _ _).alloc (Nat.le_refl _) _, fun k gk hk => ?_⟩ ?_
  · rw [(Blk.new w 34 _).cell k]
    have hk18 : k < 18 := (List.getElem?_eq_some_iff.1 hk).1
    match k, hk18, hk with
    | 0, _, hk => cases hk; rfl
    | 1, _, hk => cases hk; rfl
    | 2, _, hk => cases hk; rfl
    | 3, _, hk => cases hk; rfl
    | 4, _, hk => cases hk; rfl
    | 5, _, hk => cases hk; rfl
    | 6, _, hk => cases hk; rfl
    | 7, _, hk => cases hk; rfl
    | 8, _, hk => cases hk; rfl
    | 9, _, hk => cases hk; rfl
    | 10, _, hk => cases hk; rfl
    | 11, _, hk => cases hk; rfl
    | 12, _, hk => cases hk; rfl
    | 13, _, hk => cases hk; rfl
    | 14, _, hk => cases hk; rfl
    | 15, _, hk => cases hk; rfl
    | 16, _, hk => cases hk; rfl
    | 17, _, hk => cases hk; rfl
  rintro W ⟨hb, hc⟩
  have hE : Errs W B A G18 := h.fr (Fr.of_below hb (fun _ => False)) hB (fun _ _ h => h)
  obtain ⟨x, hx⟩ : ∃ x, x = w.heap.size := ⟨_, rfl⟩
  rw [← hx] at hc ⊢
  clear c5 c0 c6 c7 c2 c8 c9 c10 c11 c4 c12 c3 c13 c14 c15 c16 c17 c1 hx
  have HB := Lib.hid hb
  clear hb hmem
  have hnd : G18.Nodup := by decide
  go_wp2_with (fail)
  go_loop [29] (fun j => ∃ k : Nat, k ≤ i ∧ j = .int .i64 k) (fun j => 18 - (intOf j).toNat)
  case atStart => exact ⟨0, Nat.zero_le _, rfl⟩
  case round =>
    obtain ⟨k, hk, rfl⟩ := hrel
    have hk18 : k < 18 := by omega
    obtain ⟨gk, hgk⟩ : ∃ gk, G18[k]? = some gk := ⟨_, List.getElem?_eq_getElem hk18⟩
    have ck := hc k gk hgk
    by_cases he : k = i
    · subst he
      obtain rfl : g = gk := by rw [hi] at hgk; exact Option.some.inj hgk
      have heq := errEq_same (A g)
      clear hc hE h hnd
      go_wp2
      go_ret
      exact ⟨rfl, HB.out⟩
    · have hne : A g ≠ A gk := fun e => he (by
        have h1 := hE.inj g (List.mem_of_getElem? hi) gk (List.mem_of_getElem? hgk) e
        subst h1
        exact (List.getElem?_inj (l := G18) hk18 hnd).1 (hgk.trans hi.symm))
      have heq : (binOp .eql 34 (errv (A g)) (errv (A gk))).run Tryd.prog W = .ok (.bool false) W := errEq_other W hne (hE.blk g (List.mem_of_getElem? hi)) (hE.blk gk (List.mem_of_getElem? hgk))
      clear hc hE h hnd
      go_wp2
      go_round
      case rel => exact ⟨k + 1, by omega, by go_num⟩
      case measure => simp [intOf]; omega

end Go.Proofs.YtnlncfjibbdimaaDoor
