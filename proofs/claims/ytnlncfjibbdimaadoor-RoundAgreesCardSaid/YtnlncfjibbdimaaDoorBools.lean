/-
  BallotAgrees: a slice of bools in memory; which of n is meant; one of a list of numbers.
-/
import Derived.Test.YtnlncfjibbdimaaDoorAgreeM
import Derived.Test.YtnlncfjibbdimaaDoorErrs
namespace Go.Proofs.YtnlncfjibbdimaaDoor
open Go.RowKit
set_option linter.unusedSimpArgs false
set_option linter.unusedVariables false

def bls (seen : Nat → Bool) (n : Nat) : Array Value := ((List.range n).map fun i => Value.bool (seen i)).toArray
theorem bls_size (seen : Nat → Bool) (n : Nat) : (bls seen n).size = n := by simp [bls]
theorem bls_get {seen : Nat → Bool} {n i : Nat} (h : i < n) : (bls seen n)[i]? = some (.bool (seen i)) := by simp [bls, h]
theorem bls_set (seen : Nat → Bool) (n j : Nat) : (bls seen n).setIfInBounds j (.bool true) = bls (upd seen j true) n := by
  apply Array.ext_getElem?
  intro i
  by_cases hi : i < n
  · rw [bls_get hi, Array.getElem?_setIfInBounds, bls_size]
    by_cases hij : j = i
    · subst hij
      simp [hi, upd]
    · rw [if_neg hij, bls_get hi, upd_other _ _ (Ne.symm hij)]
  · rw [Array.getElem?_eq_none (by rw [Array.size_setIfInBounds, bls_size]; omega), Array.getElem?_eq_none (by rw [bls_size]; omega)]

theorem bool_info : (Tryd.prog.info? 4).map (fun i => (i.zero, i.size, i.bytes)) = some (some (.bool false), 1, 1) := by kernel_rfl
theorem made_bools (n : Nat) : madeCells (Value.bool false).cells (n * 1) = bls (fun _ => false) n := by
  apply Array.ext_getElem?
  intro i
  by_cases hi : i < n
  · rw [bls_get hi]
    simp [madeCells, hi, Value.cells, Nat.mod_one]
  · rw [Array.getElem?_eq_none (by simp [madeCells]; omega), Array.getElem?_eq_none (by rw [bls_size]; omega)]
theorem make_bools (n : Nat) (h : n ≤ 1000) (W : World) : (Instr.makeSlice 108 (.int .i64 (n : Nat)) (.int .i64 (n : Nat))).run Tryd.prog W = .ok (.slice (some ⟨W.heap.size, 0, none⟩) n n) (W.alloc (.cells (bls (fun _ => false) n) 4)) := by
  have hi := bool_info
  cases hq : Tryd.prog.info? 4 with
  | none => rw [hq] at hi; cases hi
  | some i =>
    rw [hq] at hi
    simp only [Option.map_some, Option.some.injEq, Prod.mk.injEq] at hi
    obtain ⟨h1, h2, h3⟩ := hi
    have := run_makeSlice (P := Tryd.prog) W 108 4 i (.bool false) Tryd.underlying108 hq h1 .i64 .i64 n n (by omega) (by omega) (by rw [h2]; simp; omega) (by rw [h3]; simp; omega) (by omega)
    rw [this, h2, Int.toNat_natCast, made_bools]

/-- Which of n is meant. -/
theorem whichN (x : Int) {n : Nat} (hn : 0 < n) (h7 : n ≤ 1000) : ∃ j : Nat, j < n ∧ (wrap64 (x.tmod n + n)).tmod n = j := by
  have hn' : (0 : Int) < n := by omega
  have h1 : x.tmod n < n := Int.tmod_lt_of_pos _ hn'
  have h2 : -(n : Int) < x.tmod n := by
    have := Int.tmod_lt_of_pos (-x) hn'
    rw [Int.neg_tmod] at this
    omega
  have h3 : wrap64 (x.tmod n + n) = x.tmod n + n := by unfold wrap64; omega
  rw [h3, Int.tmod_eq_emod_of_nonneg (by omega)]
  have h4 := Int.emod_nonneg (x.tmod n + n) (b := n) (by omega)
  have h5 := Int.emod_lt_of_pos (x.tmod n + n) hn'
  exact ⟨((x.tmod n + n) % n).toNat, by omega, by omega⟩

theorem ints_cell {w : World} {lo hi n k : Nat} {A : Option Addr} {xs : List Int} {z : Int} (h : Rd w lo hi 1 A n (ints xs)) (hz : xs[k]? = some z) : ∃ b o, A = some ⟨b, o, none⟩ ∧ lo ≤ b ∧ b < hi ∧ w.cell? ⟨b, o + k, none⟩ = some (.int .i64 z) := by
  have hk := (List.getElem?_eq_some_iff.1 hz).1
  have hl := h.1
  rw [ints_length] at hl
  obtain ⟨⟨b, o, sp⟩, rfl, h1, h2, h3⟩ := h.2 (by omega)
  have h0 : (ints xs)[0]? = some (.int .i64 (xs[0]'(by omega))) := by simp [ints, show 0 < xs.length by omega]
  have hsp : sp = none := by simpa [Addr.add] using World.cell?_spot (h3 0 _ h0)
  subst hsp
  refine ⟨b, o, rfl, h1, h2, ?_⟩
  have := h3 k (.int .i64 z) (by rw [ints_getElem?, hz]; rfl)
  rw [Addr.add_mid] at this
  exact this


end Go.Proofs.YtnlncfjibbdimaaDoor
