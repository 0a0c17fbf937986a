/-
  The walks that compare: lists of numbers, commands, ledgers.
-/
import Derived.Test.YtnlncfjibbdimaaDoorLaws
import Derived.Deep.QuietTactic
import Derived.BigQuiet
import Derived.Lib.QuietBelow
namespace Go.Proofs.YtnlncfjibbdimaaDoor
open Go.RowKit
set_option linter.unusedSimpArgs false
set_option linter.unusedVariables false

theorem below_drewN {B : Nat} {a w : World} (h : Below B a w) (n : Nat) : Below B a (w.drewN n) := ⟨h.os, h.tape, h.output, h.size, h.block⟩

/-- Number i of a list of numbers. -/
theorem IntsAt.get {w : World} {lo hi : Nat} {A : Option Addr} {n c : Nat} {xs : List Int} (h : IntsAt w lo hi (.slice A n c) xs) {i : Nat} (hi' : i < xs.length) :
    ∃ b o, A = some ⟨b, o, none⟩ ∧ lo ≤ b ∧ b < hi ∧ w.cell? ⟨b, o + i, none⟩ = some (.int .i64 xs[i]) := by
  obtain ⟨A', c', hv, _, _, _, hr⟩ := h
  injection hv with hA hn hc
  subst hA
  obtain ⟨ad, rfl, h1, h2, h3⟩ := hr.2 (by omega)
  have h0 : (ints xs)[0]? = some (.int .i64 (xs[0]'(by omega))) := by rw [ints_getElem?, List.getElem?_eq_getElem (by omega)]; rfl
  have hc0 := h3 0 _ h0
  rw [Addr.add_zero'] at hc0
  obtain ⟨b, o, sp⟩ := ad
  obtain rfl : sp = none := World.cell?_spot hc0
  refine ⟨b, o, rfl, h1, h2, ?_⟩
  have hi2 : (ints xs)[i]? = some (.int .i64 xs[i]) := by rw [ints_getElem?, List.getElem?_eq_getElem hi']; rfl
  have := h3 i _ hi2
  rwa [Addr.add_mid] at this

theorem IntsAt.form {w : World} {lo hi : Nat} {v : Value} {xs : List Int} (h : IntsAt w lo hi v xs) : ∃ A c, v = .slice A xs.length c ∧ xs.length ≤ c ∧ c ≤ maxLen := by
  obtain ⟨A, c, h1, h2, h3, _⟩ := h
  exact ⟨A, c, h1, h2, h3⟩

/-- The first k numbers of both are the same. -/
def SameTo (xs ys : List Int) (k : Nat) : Prop := xs.take k = ys.take k
theorem SameTo.step {xs ys : List Int} {k : Nat} (h : SameTo xs ys k) (h1 : k < xs.length) (h2 : k < ys.length) (he : xs[k] = ys[k]) : SameTo xs ys (k + 1) := by
  unfold SameTo at *
  rw [List.take_add_one, List.take_add_one, h, List.getElem?_eq_getElem h1, List.getElem?_eq_getElem h2, he]
theorem SameTo.all {xs ys : List Int} (h : SameTo xs ys xs.length) (hl : xs.length = ys.length) : xs = ys := by
  unfold SameTo at h
  rw [List.take_length, hl, List.take_length] at h
  exact h
theorem ne_of_get {xs ys : List Int} {k : Nat} (h1 : k < xs.length) (h2 : k < ys.length) (he : xs[k] ≠ ys[k]) : xs ≠ ys := by
  intro h
  subst h
  exact he rfl

def YesNo (b : Bool) (w : World) (e : Ending) (w' : World) : Prop := e = .returned (.bool b) ∧ Below w.heap.size w w'

set_option maxHeartbeats 400000 in
theorem sameInts_any (w : World) (lo1 hi1 lo2 hi2 : Nat) (va vb : Value) (xs ys : List Int) (ha : IntsAt w lo1 hi1 va xs) (hb : IntsAt w lo2 hi2 vb ys) :
    Calls Tryd.prog 103 #[va, vb] w (YesNo (decide (xs = ys)) w) := by
  obtain ⟨A, c, rfl, hl1, hm1⟩ := ha.form
  obtain ⟨B, d, rfl, hl2, hm2⟩ := hb.form
  obtain ⟨n, hn⟩ : ∃ n, n = xs.length := ⟨_, rfl⟩
  obtain ⟨m, hm⟩ : ∃ m, m = ys.length := ⟨_, rfl⟩
  rw [← hn] at ha hl1 ⊢
  rw [← hm] at hb hl2 ⊢
  have hn63 : n ≤ 9223372036854775807 := by simp only [maxLen] at hm1; omega
  have hm63 : m ≤ 9223372036854775807 := by simp only [maxLen] at hm2; omega
  have HN := Lib.hid hn
  have HM := Lib.hid hm
  clear hn hm hl1 hl2 hm1 hm2
  by_cases hnm : n = m
  · subst hnm
    have hne : ((n : Int) != (n : Int)) = false := by simp
    go_enter Tryd.func103, Tryd.ntmps103
    go_wp2
    go_loopw [13] (fun i wr => ∃ k : Nat, k ≤ n ∧ i = .int .i64 k ∧ SameTo xs ys k ∧ ∃ q, wr = w.drewN q) (fun i _ => n - (intOf i).toNat)
    case atStart => exact ⟨0, Nat.zero_le _, rfl, by simp [SameTo], 0, rfl⟩
    case round =>
      obtain ⟨k, hk, rfl, hs, q, rfl⟩ := hrel
      by_cases hlt : k < n
      · have hk1 : k < xs.length := by rw [← HN.out]; exact hlt
        have hk2 : k < ys.length := by rw [← HM.out]; exact hlt
        obtain ⟨b1, o1, rfl, _, _, c1⟩ := ha.get hk1
        obtain ⟨b2, o2, rfl, _, _, c2⟩ := hb.get hk2
        obtain ⟨x, hx⟩ : ∃ x, x = xs[k] := ⟨_, rfl⟩
        obtain ⟨y, hy⟩ : ∃ y, y = ys[k] := ⟨_, rfl⟩
        rw [← hx] at c1
        rw [← hy] at c2
        have HX := Lib.hid hx
        have HY := Lib.hid hy
        clear hx hy ha hb
        have hlt' : (k : Int) < (n : Int) := by omega
        by_cases hxy : x = y
        · have hbne : (x != y) = false := by simp [hxy]
          have HXY := Lib.hid hxy
          clear hxy
          go_wp2_with (fail)
          go_quiet (fail)
          go_wp2
          go_roundw
          case rel => exact ⟨k + 1, by omega, by go_num, hs.step hk1 hk2 (by rw [← HX.out, ← HY.out]; exact HXY.out), _, rfl⟩
          case measure => simp [intOf]; omega
        · have hbne : (x != y) = true := by simp [hxy]
          have HXY := Lib.hid hxy
          clear hxy
          go_wp2_with (fail)
          go_quiet (fail)
          go_wp2
          go_ret
          exact ⟨ret_bool (by symm; exact decide_eq_false (ne_of_get hk1 hk2 (by rw [← HX.out, ← HY.out]; exact HXY.out))), below_drewN (below_drewN (Below.refl _ _) _) _⟩
      · have hkn : k = n := by omega
        subst hkn
        go_wp2
        go_ret
        have h1 := HN.out
        exact ⟨ret_bool (by symm; exact decide_eq_true (SameTo.all (by rw [← h1]; exact hs) (by rw [← h1]; exact HM.out))), below_drewN (Below.refl _ _) _⟩
  · have hne : ((n : Int) != (m : Int)) = true := by simp; omega
    have HNM := Lib.hid hnm
    clear hnm
    go_enter Tryd.func103, Tryd.ntmps103
    go_wp2
    go_ret
    exact ⟨ret_bool (by symm; exact decide_eq_false (fun h => HNM.out (by rw [HN.out, HM.out, h]))), Below.refl _ _⟩

/-- A proposition's answer. -/
noncomputable def tf (p : Prop) : Bool := @decide p (Classical.propDecidable p)
theorem tf_true {p : Prop} (h : p) : tf p = true := by unfold tf; simp [h]
theorem tf_false {p : Prop} (h : ¬ p) : tf p = false := by unfold tf; simp [h]
theorem tf_eq {p : Prop} [Decidable p] : tf p = decide p := by
  by_cases h : p
  · rw [tf_true h]; simp [h]
  · rw [tf_false h]; simp [h]

end Go.Proofs.YtnlncfjibbdimaaDoor
