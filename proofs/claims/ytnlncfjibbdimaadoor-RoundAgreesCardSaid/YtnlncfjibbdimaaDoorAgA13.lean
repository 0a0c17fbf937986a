/-
  Ledgers none of whose blocks is in a set of blocks that change (their rows and their parts may lie apart).
  Rounds beside memory that changes: what a round keeps of its ledger and parts, told by the blocks that change. No walk stands here.
-/
import Derived.Test.YtnlncfjibbdimaaDoorN13
namespace Go.Proofs.YtnlncfjibbdimaaDoor
open Go.RowKit
set_option linter.unusedSimpArgs false
set_option linter.unusedVariables false

def RdP (w : World) (M : Nat → Prop) (size : Nat) (A : Option Addr) (n : Nat) (xs : List Value) : Prop :=
  xs.length = n * size ∧ (0 < n → ∃ ad, A = some ad ∧ ¬ M ad.block ∧ ad.block < w.heap.size ∧ ∀ j u, xs[j]? = some u → w.cell? (ad.add j) = some u)
def IntsP (w : World) (M : Nat → Prop) (v : Value) (xs : List Int) : Prop :=
  ∃ A c, v = .slice A xs.length c ∧ xs.length ≤ c ∧ c ≤ maxLen ∧ xs.length * 8 ≤ 140737488355328 ∧ RdP w M 1 A xs.length (ints xs)
def LedP (w : World) (M : Nat → Prop) (v : Value) (l : List Cmd) : Prop :=
  ∃ (A : Option Addr) (c : Nat) (rows : List (List Value)), v = .slice A l.length c ∧ l.length ≤ c ∧ c ≤ maxLen ∧ l.length * 184 ≤ 140737488355328 ∧ RdP w M 18 A l.length rows.flatten ∧ rows.length = l.length ∧ ∀ (i : Nat) (r : List Value) (c : Cmd), rows[i]? = some r → l[i]? = some c → ∃ pv, r = c.cells pv ∧ IntsP w M pv c.parts

section
variable {w w' : World} {M M' S : Nat → Prop} {size n B : Nat} {A : Option Addr} {xs : List Value} {v : Value} {ys : List Int} {l : List Cmd} {c : Cmd}
theorem RdP.fr (h : RdP w M size A n xs) (f : Fr B S w w') (hB : w.heap.size ≤ B) (hS : ∀ k, S k → M k) : RdP w' M size A n xs :=
  ⟨h.1, fun hn => by
    obtain ⟨ad, e, h1, h2, h3⟩ := h.2 hn
    exact ⟨ad, e, h1, Nat.lt_of_lt_of_le h2 f.size, fun j u hu => (f.cell (p := ad.add j) (by rw [block_of_add]; omega) (by rw [block_of_add]; exact fun hs => h1 (hS _ hs))).trans (h3 j u hu)⟩⟩
theorem RdP.grow (h : RdP w M size A n xs) (hM : ∀ m, M' m → M m ∨ w.heap.size ≤ m) : RdP w M' size A n xs :=
  ⟨h.1, fun hn => by
    obtain ⟨ad, e, h1, h2, h3⟩ := h.2 hn
    exact ⟨ad, e, fun hm => by rcases hM _ hm with h | h; exact h1 h; omega, h2, h3⟩⟩
theorem RdP.at_ (h : RdP w M size A n xs) : Rd w 0 w.heap.size size A n xs :=
  ⟨h.1, fun hn => by
    obtain ⟨ad, e, _, h2, h3⟩ := h.2 hn
    exact ⟨ad, e, Nat.zero_le _, h2, h3⟩⟩
theorem RdP.of {lo hi : Nat} (h : Rd w lo hi size A n xs) (hhi : hi ≤ w.heap.size) (hM : ∀ m, M m → m < lo ∨ hi ≤ m) : RdP w M size A n xs :=
  ⟨h.1, fun hn => by
    obtain ⟨ad, e, h1, h2, h3⟩ := h.2 hn
    exact ⟨ad, e, fun hm => by have := hM _ hm; omega, by omega, h3⟩⟩
theorem IntsP.fr (h : IntsP w M v ys) (f : Fr B S w w') (hB : w.heap.size ≤ B) (hS : ∀ k, S k → M k) : IntsP w' M v ys := by
  obtain ⟨A, c, h1, h2, h3, h4, h5⟩ := h
  exact ⟨A, c, h1, h2, h3, h4, h5.fr f hB hS⟩
theorem IntsP.grow (h : IntsP w M v ys) (hM : ∀ m, M' m → M m ∨ w.heap.size ≤ m) : IntsP w M' v ys := by
  obtain ⟨A, c, h1, h2, h3, h4, h5⟩ := h
  exact ⟨A, c, h1, h2, h3, h4, h5.grow hM⟩
theorem IntsP.at_ (h : IntsP w M v ys) : IntsAt w 0 w.heap.size v ys := by
  obtain ⟨A, c, h1, h2, h3, h4, h5⟩ := h
  exact ⟨A, c, h1, h2, h3, h4, h5.at_⟩
theorem IntsP.of {lo hi : Nat} (h : IntsAt w lo hi v ys) (hhi : hi ≤ w.heap.size) (hM : ∀ m, M m → m < lo ∨ hi ≤ m) : IntsP w M v ys := by
  obtain ⟨A, c, h1, h2, h3, h4, h5⟩ := h
  exact ⟨A, c, h1, h2, h3, h4, RdP.of h5 hhi hM⟩
theorem LedP.fr (h : LedP w M v l) (f : Fr B S w w') (hB : w.heap.size ≤ B) (hS : ∀ k, S k → M k) : LedP w' M v l := by
  obtain ⟨A, c, rows, h1, h2, h3, h4, h5, h6, h7⟩ := h
  exact ⟨A, c, rows, h1, h2, h3, h4, h5.fr f hB hS, h6, fun i r c e1 e2 => by obtain ⟨pv, e, hp⟩ := h7 i r c e1 e2; exact ⟨pv, e, hp.fr f hB hS⟩⟩
theorem LedP.grow (h : LedP w M v l) (hM : ∀ m, M' m → M m ∨ w.heap.size ≤ m) : LedP w M' v l := by
  obtain ⟨A, c, rows, h1, h2, h3, h4, h5, h6, h7⟩ := h
  exact ⟨A, c, rows, h1, h2, h3, h4, h5.grow hM, h6, fun i r c e1 e2 => by obtain ⟨pv, e, hp⟩ := h7 i r c e1 e2; exact ⟨pv, e, hp.grow hM⟩⟩
theorem LedP.at_ (h : LedP w M v l) : LedAt w 0 w.heap.size v l := by
  obtain ⟨A, c, rows, h1, h2, h3, h4, h5, h6, h7⟩ := h
  exact ⟨A, c, rows, h1, h2, h3, h4, h5.at_, h6, fun i r c e1 e2 => by obtain ⟨pv, e, hp⟩ := h7 i r c e1 e2; exact ⟨pv, e, hp.at_⟩⟩
theorem LedP.of {lo hi : Nat} (h : LedAt w lo hi v l) (hhi : hi ≤ w.heap.size) (hM : ∀ m, M m → m < lo ∨ hi ≤ m) : LedP w M v l := by
  obtain ⟨A, c, rows, h1, h2, h3, h4, h5, h6, h7⟩ := h
  exact ⟨A, c, rows, h1, h2, h3, h4, RdP.of h5 hhi hM, h6, fun i r c e1 e2 => by obtain ⟨pv, e, hp⟩ := h7 i r c e1 e2; exact ⟨pv, e, IntsP.of hp hhi hM⟩⟩
theorem LedP.nil_ (w : World) (M : Nat → Prop) : LedP w M (.slice none 0 0) [] :=
  ⟨none, 0, [], rfl, Nat.le_refl _, by simp [maxLen], by simp, ⟨by simp, fun h => absurd h (by simp)⟩, rfl, fun i r c h => by simp at h⟩
/-- A command behind a ledger of the call's own: its parts stay where they are. -/
theorem append_ledP {W : World} {lo q pa pb : Nat} {v pv : Value} (hO : OwnLed W lo W.heap.size v l) (hlo : lo ≤ W.heap.size) (hB : Blk W q 81 (c.cells pv).toArray) (hp : IntsAt W pa pb pv c.parts) (hpb : pb ≤ lo) (hpM : ∀ m, M m → m < pa ∨ pb ≤ m) (hM : ∀ m, M m → m < lo) (hl : (l.length + 1) * 184 ≤ 140737488355328) :
    ∃ v' W', (Builtin.append_ #[46, 46] 46 #[v, .slice (some ⟨q, 0, none⟩) 1 1]).run Tryd.prog W = .ok v' W' ∧ LedP W' M v' (l ++ [c]) ∧ Below lo W W' := by
  obtain ⟨i1, z1, hi1, hz11, hz12, hz13, hz14⟩ := cmd_info'
  obtain ⟨rows, hown, _, hrl, hrows⟩ := hO
  obtain ⟨pA, pc, rfl⟩ : ∃ pA pc, pv = .slice pA c.parts.length pc := by
    obtain ⟨A1, c1, q1, _⟩ := hp
    exact ⟨A1, c1, q1⟩
  have hrd : Rd W 0 (q + 1) 18 (some ⟨q, 0, none⟩) 1 (c.cells (.slice pA c.parts.length pc)) :=
    ⟨rfl, fun _ => ⟨_, rfl, Nat.zero_le _, Nat.lt_succ_self _, fun j u hu => by rw [Addr.add_mid]; exact hB.range j u hu⟩⟩
  have h1c : ∀ u ∈ c.cells (.slice pA c.parts.length pc), u.oneCell' = true := by
    have := cells_oneCell c pA c.parts.length pc
    simpa using this
  obtain ⟨v1, w1, hrun, hown2, hg, hat⟩ := run_append_any (P := Tryd.prog) W lo 46 46 81 i1 z1 18 184 Tryd.underlying46 hi1 hz11 hz12 hz13 hz14 (by decide) v l.length rows.flatten hown.1 0 (q + 1) (some ⟨q, 0, none⟩) 1 1 (c.cells (.slice pA c.parts.length pc)) hrd h1c (by simp only [maxLen]; omega) (by omega) hlo
  have hO1 : OwnRow w1 lo w1.heap.size 81 18 v1 (l.length + 1) (rows.flatten ++ c.cells (.slice pA c.parts.length pc)) := ⟨hown2, fun g hg => (hown2.lt g hg).2⟩
  obtain ⟨A1, c1, hv1, hc1, hc2, _⟩ := hO1.form
  subst hv1
  have hbl : Below lo W w1 := (Below.refl lo W).grown hg hlo (fun k hk => (hown.1.lt k hk).1)
  have hfl : (rows ++ [c.cells (.slice pA c.parts.length pc)]).flatten = rows.flatten ++ c.cells (.slice pA c.parts.length pc) := by simp
  refine ⟨_, w1, hrun, ⟨A1, c1, rows ++ [c.cells (.slice pA c.parts.length pc)], by rw [List.length_append, List.length_singleton], by rw [List.length_append, List.length_singleton]; exact hc1, hc2, by rw [List.length_append, List.length_singleton]; exact hl, ?_, by simp [hrl], fun i r d hr hd => ?_⟩, hbl⟩
  · rw [hfl, List.length_append, List.length_singleton]
    exact RdP.of (Rd.of_own hO1.1 hO1.2) (Nat.le_refl _) (fun m hm => .inl (hM m hm))
  · by_cases hi : i < rows.length
    · rw [List.getElem?_append_left hi] at hr
      rw [List.getElem?_append_left (by omega)] at hd
      obtain ⟨pv', hpv', hoi⟩ := hrows i r d hr hd
      exact ⟨pv', hpv', IntsP.of ((hoi.grown hown.1 (by decide) hg).wider (Nat.le_refl _) hg.size).at_ (Nat.le_refl _) (fun m hm => .inl (hM m hm))⟩
    · have hi2 : i = rows.length := by
        have := (List.getElem?_eq_some_iff.1 hr).1
        rw [List.length_append, List.length_singleton] at this
        omega
      subst hi2
      rw [List.getElem?_append_right (Nat.le_refl _), Nat.sub_self] at hr
      rw [List.getElem?_append_right (by omega), hrl, Nat.sub_self] at hd
      simp at hr hd
      subst hr hd
      exact ⟨_, rfl, IntsP.of (hp.fr (Fr.of_below hbl (fun _ => False)) hpb (fun _ _ _ h => h)) (by have := hbl.size; omega) hpM⟩
end
end Go.Proofs.YtnlncfjibbdimaaDoor

namespace Go.Proofs.YtnlncfjibbdimaaDoor
open Go.RowKit
set_option linter.unusedSimpArgs false
set_option linter.unusedVariables false

section
variable {w w' : World} {M M' S : Nat → Prop} {size n B lo : Nat} {A : Option Addr} {xs : List Value} {v : Value} {ys : List Int} {l : List Cmd} {c : Cmd}
theorem RdP.weak (h : RdP w M size A n xs) (hM : ∀ k, M' k → M k) : RdP w M' size A n xs :=
  ⟨h.1, fun hn => by obtain ⟨ad, e, h1, h2, h3⟩ := h.2 hn; exact ⟨ad, e, fun hm => h1 (hM _ hm), h2, h3⟩⟩
theorem IntsP.weak (h : IntsP w M v ys) (hM : ∀ k, M' k → M k) : IntsP w M' v ys := by
  obtain ⟨A, c, h1, h2, h3, h4, h5⟩ := h
  exact ⟨A, c, h1, h2, h3, h4, h5.weak hM⟩
theorem LedP.weak (h : LedP w M v l) (hM : ∀ k, M' k → M k) : LedP w M' v l := by
  obtain ⟨A, c, rows, h1, h2, h3, h4, h5, h6, h7⟩ := h
  exact ⟨A, c, rows, h1, h2, h3, h4, h5.weak hM, h6, fun i r c e1 e2 => by obtain ⟨pv, e, hp⟩ := h7 i r c e1 e2; exact ⟨pv, e, hp.weak hM⟩⟩
/-- .. whose blocks lie from lo on. -/
theorem RdP.from_ (h : RdP w M size A n xs) (hM : ∀ k, k < lo → M k) : Rd w lo w.heap.size size A n xs :=
  ⟨h.1, fun hn => by
    obtain ⟨ad, e, h1, h2, h3⟩ := h.2 hn
    exact ⟨ad, e, Nat.le_of_not_lt fun h => h1 (hM _ h), h2, h3⟩⟩
theorem IntsP.from_ (h : IntsP w M v ys) (hM : ∀ k, k < lo → M k) : IntsAt w lo w.heap.size v ys := by
  obtain ⟨A, c, h1, h2, h3, h4, h5⟩ := h
  exact ⟨A, c, h1, h2, h3, h4, h5.from_ hM⟩
theorem LedP.from_ (h : LedP w M v l) (hM : ∀ k, k < lo → M k) : LedAt w lo w.heap.size v l := by
  obtain ⟨A, c, rows, h1, h2, h3, h4, h5, h6, h7⟩ := h
  exact ⟨A, c, rows, h1, h2, h3, h4, h5.from_ hM, h6, fun i r c e1 e2 => by obtain ⟨pv, e, hp⟩ := h7 i r c e1 e2; exact ⟨pv, e, hp.from_ hM⟩⟩
/-- .. below hi. -/
theorem RdP.upto {hi : Nat} (h : RdP w M size A n xs) (hM : ∀ k, hi ≤ k → M k) : Rd w 0 hi size A n xs :=
  ⟨h.1, fun hn => by
    obtain ⟨ad, e, h1, h2, h3⟩ := h.2 hn
    exact ⟨ad, e, Nat.zero_le _, Nat.lt_of_not_le fun h => h1 (hM _ h), h3⟩⟩
theorem IntsP.upto {hi : Nat} (h : IntsP w M v ys) (hM : ∀ k, hi ≤ k → M k) : IntsAt w 0 hi v ys := by
  obtain ⟨A, c, h1, h2, h3, h4, h5⟩ := h
  exact ⟨A, c, h1, h2, h3, h4, h5.upto hM⟩
/-- A ledger that reads in an interval, the blocks that change all ahead of it. -/
theorem LedP.own {lo hi : Nat} (h : OwnLed w lo hi v l) (hhi : hi ≤ w.heap.size) (hM : ∀ m, M m → m < lo) : LedP w M v l := LedP.of h.at_ hhi (fun m hm => .inl (hM m hm))
end

/-- A round; M: the blocks that change. -/
structure RndF (w : World) (M : Nat → Prop) (B g ga n : Nat) (f : Nat → Bool) (r : Rnd) (pv lv : Value) : Prop where
  hg : g < B
  hga : ga < B
  ne : g ≠ ga
  hB : B ≤ w.heap.size
  row : Blk w g 199 (r.cells (.slice (some ⟨ga, 0, none⟩) n n) pv lv).toArray
  ans : Blk w ga 4 (bls f n)
  parts : ∃ p0, p0 ≤ g ∧ p0 ≤ ga ∧ IntsP w (fun k => M k ∨ p0 ≤ k) pv r.cmd.parts
  led : LedP w (fun k => M k ∨ k < B) lv r.led
  sz : n ≤ 16
  mg : M g
  mga : M ga

section
variable {w w' : World} {M M' S : Nat → Prop} {B B' g ga n : Nat} {f f' : Nat → Bool} {r r' : Rnd} {pv lv lv' : Value}
theorem RndF.at_ (h : RndF w M B g ga n f r pv lv) : RndAt w B g ga n f r pv lv := by
  refine ⟨h.hg, h.hga, h.ne, h.hB, h.row, h.ans, ?_, h.led.from_ (fun k hk => .inr hk), h.sz⟩
  obtain ⟨p0, q1, q2, q3⟩ := h.parts
  exact ⟨p0, q1, q2, q3.upto (fun k hk => .inr hk)⟩
theorem RndF.fr (h : RndF w M B g ga n f r pv lv) (F : Fr B' S w w') (hB' : w.heap.size ≤ B') (hS : ∀ k, S k → M k) (hg : ¬ S g) (hga : ¬ S ga) : RndF w' M B g ga n f r pv lv := by
  refine ⟨h.hg, h.hga, h.ne, Nat.le_trans h.hB F.size, h.row.fr F (Nat.lt_of_lt_of_le h.row.lt hB') hg, h.ans.fr F (Nat.lt_of_lt_of_le h.ans.lt hB') hga, ?_, h.led.fr F hB' (fun k hk => .inl (hS k hk)), h.sz, h.mg, h.mga⟩
  obtain ⟨p0, q1, q2, q3⟩ := h.parts
  exact ⟨p0, q1, q2, q3.fr F hB' (fun k hk => .inl (hS k hk))⟩
theorem RndF.below (h : RndF w M B g ga n f r pv lv) (b : Below w.heap.size w w') : RndF w' M B g ga n f r pv lv := h.fr (Fr.of_below b (fun _ => False)) (Nat.le_refl _) (fun _ h => h.elim) (fun h => h) (fun h => h)
theorem RndF.grow (h : RndF w M B g ga n f r pv lv) (hM : ∀ m, M' m → M m ∨ w.heap.size ≤ m) (hg : M' g) (hga : M' ga) : RndF w M' B g ga n f r pv lv := by
  refine ⟨h.hg, h.hga, h.ne, h.hB, h.row, h.ans, ?_, h.led.grow (fun m hm => ?_), h.sz, hg, hga⟩
  · obtain ⟨p0, q1, q2, q3⟩ := h.parts
    refine ⟨p0, q1, q2, q3.grow (fun m hm => ?_)⟩
    rcases hm with hm | hm
    · exact (hM m hm).imp .inl id
    · exact .inl (.inr hm)
  · rcases hm with hm | hm
    · exact (hM m hm).imp .inl id
    · exact .inl (.inr hm)
/-- A call of the round: it changes its own two blocks. -/
theorem RndF.step (h : RndF w M B g ga n f r pv lv) (hR : RndAt w' B g ga n f' r' pv lv') (F : Fr w.heap.size (fun k => k = g ∨ k = ga) w w') (hc : r'.cmd = r.cmd)
    (hl : (lv' = lv ∧ r'.led = r.led) ∨ OwnLed w' w.heap.size w'.heap.size lv' r'.led) (hM : ∀ m, M m → m < w.heap.size) : RndF w' M B g ga n f' r' pv lv' := by
  have hS : ∀ k, k = g ∨ k = ga → M k := fun k hk => by
    rcases hk with rfl | rfl
    · exact h.mg
    · exact h.mga
  refine ⟨h.hg, h.hga, h.ne, hR.hB, hR.row, hR.ans, ?_, ?_, h.sz, h.mg, h.mga⟩
  · obtain ⟨p0, q1, q2, q3⟩ := h.parts
    rw [hc]
    exact ⟨p0, q1, q2, q3.fr F (Nat.le_refl _) (fun k hk => .inl (hS k hk))⟩
  · rcases hl with ⟨e1, e2⟩ | ho
    · rw [e1, e2]
      exact h.led.fr F (Nat.le_refl _) (fun k hk => .inl (hS k hk))
    · refine LedP.own ho (Nat.le_refl _) (fun m hm => ?_)
      rcases hm with hm | hm
      · exact hM m hm
      · exact Nat.lt_of_lt_of_le hm h.hB
end

theorem newer_cmd (r : Rnd) (ar an : Int) (l : List Cmd) : (r.newer ar an l).cmd = r.cmd := by unfold Rnd.newer; split <;> rfl
theorem tell_cmd (r : Rnd) : r.tell.cmd = r.cmd := by unfold Rnd.tell; split; rfl; split <;> rfl
theorem promised_cmd (r : Rnd) (n : Nat) (f : Nat → Bool) (j : Nat) (ar an : Int) (l : List Cmd) : (r.promised n f j ar an l).cmd = r.cmd := by
  unfold Rnd.promised
  split
  · rw [tell_cmd, newer_cmd]
  · rw [newer_cmd]

section
variable {w : World} {M : Nat → Prop} {B g ga n : Nat} {f : Nat → Bool} {r : Rnd} {pv lv : Value}
/-! ### The calls of a round -/
theorem RndF.begin_late (h : RndF w M B g ga n f r pv lv) (br bn : Int) (a1 : Addr) (h1 : w.cell? ⟨1, 0, none⟩ = some (errv a1)) (hs : 3 ≤ r.stage) :
    Calls Tryd.prog 55 #[.pointer (some ⟨g, 0, none⟩), .agg #[.int .i64 br, .int .i64 bn]] w fun e w' => e = .returned (errv a1) ∧ Below w.heap.size w w' := Go.Proofs.YtnlncfjibbdimaaDoor.begin_late w B g ga n f r pv lv h.at_ br bn a1 h1 hs
theorem RndF.begin_no (h : RndF w M B g ga n f r pv lv) (br bn : Int) (a3 : Addr) (h3 : w.cell? ⟨3, 0, none⟩ = some (errv a3)) (hs : r.stage < 3) (hl : ¬ (lg br bn = true ∧ ab br bn r.br r.bn = true)) :
    Calls Tryd.prog 55 #[.pointer (some ⟨g, 0, none⟩), .agg #[.int .i64 br, .int .i64 bn]] w fun e w' => e = .returned (errv a3) ∧ Below w.heap.size w w' := by
  cases hl1 : lg br bn with
  | false => exact begin_illegal w B g ga n f r pv lv h.at_ br bn a3 h3 hs hl1
  | true => cases ha : ab br bn r.br r.bn with
    | false => exact begin_low w B g ga n f r pv lv h.at_ br bn a3 h3 hs hl1 ha
    | true => exact absurd ⟨hl1, ha⟩ hl
def Rnd.began (r : Rnd) (br bn : Int) : Rnd := { r with br := br, bn := bn, stage := 1, nr := 0, nn := 0, led := [], begun := wrap64 (r.begun + 1) }
theorem RndF.begin_yes (h : RndF w M B g ga n f r pv lv) (hM : ∀ m, M m → m < w.heap.size) (br bn : Int) (a3 : Addr) (h3 : w.cell? ⟨3, 0, none⟩ = some (errv a3)) (hs : r.stage < 3) (hl : lg br bn = true) (ha : ab br bn r.br r.bn = true) (hn : 0 < n) :
    Calls Tryd.prog 55 #[.pointer (some ⟨g, 0, none⟩), .agg #[.int .i64 br, .int .i64 bn]] w fun e w' => e = .returned .nilIface ∧ RndF w' M B g ga n (fun _ => false) (r.began br bn) pv (.slice none 0 0) ∧ Fr w.heap.size (fun k => k = g ∨ k = ga) w w' :=
  (begin_good w B g ga n f r pv lv h.at_ br bn a3 h3 hs hl ha hn).mono fun e w' ⟨h1, h2, h3⟩ => ⟨h1, h.step h2 h3 rfl (.inr (OwnLed.nil_ _ _ _)) hM, h3⟩
theorem RndF.promise_no (h : RndF w M B g ga n f r pv lv) (hn : 0 < n) {from_ br bn ar an : Int} {lo hi : Nat} {lva : Value} {l : List Cmd} (hL : LedAt w lo hi lva l) (hhi : hi ≤ w.heap.size) (hlo : ga < lo ∨ hi ≤ ga) (a4 : Addr) (h4 : w.cell? ⟨4, 0, none⟩ = some (errv a4)) (hf : ¬ fitsR r n f 1 from_ br bn) :
    Calls Tryd.prog 58 #[.pointer (some ⟨g, 0, none⟩), .int .i64 from_, .agg #[.int .i64 br, .int .i64 bn], .agg #[.int .i64 ar, .int .i64 an], lva] w fun e w' => e = .returned (.bool false) ∧ Below w.heap.size w w' :=
  (promise_any w B g ga n f r pv lv h.at_ hn from_ br bn ar an lo hi lva l hL hhi hlo a4 h4).mono fun e w' hp => by
    rcases hp with ⟨_, h1, h2⟩ | ⟨h1, h2, j, h3, h4, h5, _⟩
    · exact ⟨h1, h2⟩
    · exact absurd ⟨h1, h2, j, h3, h4, h5⟩ hf
theorem RndF.promise_yes (h : RndF w M B g ga n f r pv lv) (hM : ∀ m, M m → m < w.heap.size) (hn : 0 < n) {j : Nat} {br bn ar an : Int} {lo hi : Nat} {lva : Value} {l : List Cmd} (hL : LedAt w lo hi lva l) (hhi : hi ≤ w.heap.size) (hlo : ga < lo ∨ hi ≤ ga) (a4 : Addr) (h4 : w.cell? ⟨4, 0, none⟩ = some (errv a4)) (h1 : r.stage = 1) (h2 : br = r.br ∧ bn = r.bn) (hj : j < n) (hf : f j = false) :
    Calls Tryd.prog 58 #[.pointer (some ⟨g, 0, none⟩), .int .i64 j, .agg #[.int .i64 br, .int .i64 bn], .agg #[.int .i64 ar, .int .i64 an], lva] w fun e w' => e = .returned (.bool true) ∧
      ∃ lv', RndF w' M B g ga n (promF n f j) (r.promised n f j ar an l) pv lv' ∧ Fr w.heap.size (fun k => k = g ∨ k = ga) w w' :=
  (promise_any w B g ga n f r pv lv h.at_ hn j br bn ar an lo hi lva l hL hhi hlo a4 h4).mono fun e w' hp => by
    rcases hp with ⟨hno, _⟩ | ⟨_, _, j', e1, _, _, h4, lv', h5, h6, h7⟩
    · exact absurd ⟨h1, h2, j, rfl, hj, hf⟩ hno
    · obtain rfl : j = j' := by omega
      exact ⟨h4, lv', h.step h5 h6 (promised_cmd _ _ _ _ _ _ _) h7 hM, h6⟩
theorem RndF.accepted_no (h : RndF w M B g ga n f r pv lv) {from_ br bn : Int} (hf : ¬ fitsR r n f 2 from_ br bn) :
    Calls Tryd.prog 62 #[.pointer (some ⟨g, 0, none⟩), .int .i64 from_, .agg #[.int .i64 br, .int .i64 bn]] w fun e w' => e = .returned (.bool false) ∧ Below w.heap.size w w' :=
  (accepted13_any w B g ga n f r pv lv h.at_ from_ br bn).mono fun e w' hp => by
    rcases hp with ⟨_, h1, h2⟩ | ⟨h1, h2, j, h3, h4, h5, _⟩
    · exact ⟨h1, h2⟩
    · exact absurd ⟨h1, h2, j, h3, h4, h5⟩ hf
def Rnd.took (r : Rnd) (n : Nat) (f : Nat → Bool) (j : Nat) : Rnd := { r with stage := if half n ≤ (cnt n (upd f j true) : Nat) then 3 else 2 }
theorem RndF.accepted_yes (h : RndF w M B g ga n f r pv lv) (hM : ∀ m, M m → m < w.heap.size) {j : Nat} {br bn : Int} (h1 : r.stage = 2) (h2 : br = r.br ∧ bn = r.bn) (hj : j < n) (hf : f j = false) :
    Calls Tryd.prog 62 #[.pointer (some ⟨g, 0, none⟩), .int .i64 j, .agg #[.int .i64 br, .int .i64 bn]] w fun e w' => e = .returned (.bool true) ∧
      RndF w' M B g ga n (upd f j true) (r.took n f j) pv lv ∧ Fr w.heap.size (fun k => k = g ∨ k = ga) w w' :=
  (accepted13_any w B g ga n f r pv lv h.at_ j br bn).mono fun e w' hp => by
    rcases hp with ⟨hno, _⟩ | ⟨_, _, j', e1, _, _, h4, h5, h6⟩
    · exact absurd ⟨h1, h2, j, rfl, hj, hf⟩ hno
    · obtain rfl : j = j' := by omega
      exact ⟨h4, h.step h5 h6 rfl (.inl ⟨rfl, rfl⟩) hM, h6⟩
theorem RndF.stage (h : RndF w M B g ga n f r pv lv) : Calls Tryd.prog 56 #[.pointer (some ⟨g, 0, none⟩)] w fun e w' => e = .returned (.int .i64 r.stage) ∧ Below w.heap.size w w' := stage_any w B g ga n f r pv lv h.at_
theorem RndF.ledger (h : RndF w M B g ga n f r pv lv) : Calls Tryd.prog 60 #[.pointer (some ⟨g, 0, none⟩)] w fun e w' => ∃ v, e = .returned v ∧ OwnLed w' w.heap.size w'.heap.size v r.tells ∧ Below w.heap.size w w' := rledger_any w B g ga n f r pv lv h.at_
theorem RndF.place (h : RndF w M B g ga n f r pv lv) (a10 : Addr) (h10 : w.cell? ⟨10, 0, none⟩ = some (errv a10)) : Calls Tryd.prog 61 #[.pointer (some ⟨g, 0, none⟩)] w fun e w' => e = .returned (.int .i64 r.place) ∧ Below w.heap.size w w' := rplace_any w B g ga n f r pv lv h.at_ a10 h10
end
end Go.Proofs.YtnlncfjibbdimaaDoor
