/-
  Sentinel errors: what the listed variables hold when the call begins; comparing two of them.
-/
import Derived.Test.YtnlncfjibbdimaaDoorBal1
import Derived.LaidEql
namespace Go.Proofs.YtnlncfjibbdimaaDoor
open Go.RowKit
set_option linter.unusedSimpArgs false
set_option linter.unusedVariables false

theorem err_info : ∃ i j, Tryd.prog.info? 251 = some i ∧ i.comparable = true ∧ Tryd.prog.info? 266 = some j ∧ j.size ≠ 0 := by
  have h1 : (Tryd.prog.info? 251).map (·.comparable) = some true := by kernel_rfl
  have h2 : (Tryd.prog.info? 266).map (·.size) = some 1 := by kernel_rfl
  cases hi : Tryd.prog.info? 251 with
  | none => rw [hi] at h1; simp at h1
  | some i =>
    cases hj : Tryd.prog.info? 266 with
    | none => rw [hj] at h2; simp at h2
    | some j =>
      rw [hi] at h1
      rw [hj] at h2
      simp at h1 h2
      exact ⟨i, j, rfl, h1, rfl, by omega⟩

theorem errEq_same (a : Addr) (w : World) : (binOp .eql 34 (errv a) (errv a)).run Tryd.prog w = .ok (.bool true) w := by
  obtain ⟨i, j, h1, h2, h3, _⟩ := err_info
  exact run_eql_iface_ptr_same w a Tryd.underlying34 Tryd.underlying251 h1 h2 h3

/-- Known blocks of two unlike errors. -/
def ErrBlk (w : World) (a : Addr) : Prop := ∃ c t, w.heap[a.block]? = some (.cells c t (0, 0))
theorem ErrBlk.fr {w w' : World} {a : Addr} {B : Nat} {S : Nat → Prop} (h : ErrBlk w a) (f : Fr B S w w') (hb : a.block < B) (hs : ¬ S a.block) : ErrBlk w' a := by
  obtain ⟨c, t, h⟩ := h
  exact ⟨c, t, (f.block _ hb hs).trans h⟩
theorem errEq_other {a b : Addr} (w : World) (hne : a ≠ b) (ha : ErrBlk w a) (hb : ErrBlk w b) : (binOp .eql 34 (errv a) (errv b)).run Tryd.prog w = .ok (.bool false) w := by
  obtain ⟨i, j, h1, h2, h3, h4⟩ := err_info
  obtain ⟨ca, ta, ha⟩ := ha
  obtain ⟨cb, tb, hb⟩ := hb
  exact run_eql_iface_ptr_other w Tryd.underlying34 Tryd.underlying251 h1 h2 h3 h4 hne ha hb

/-- The sentinels of the listed globals: A g is where the error of global g lies; all of it below block B. -/
structure Errs (w : World) (B : Nat) (A : Nat → Addr) (G : List Nat) : Prop where
  lt : ∀ g ∈ G, g < B ∧ (A g).block < B
  cell : ∀ g ∈ G, w.cell? ⟨g, 0, none⟩ = some (errv (A g))
  blk : ∀ g ∈ G, ErrBlk w (A g)
  inj : ∀ g ∈ G, ∀ g' ∈ G, A g = A g' → g = g'
theorem Errs.fr {w w' : World} {B B' : Nat} {S : Nat → Prop} {A : Nat → Addr} {G : List Nat} (h : Errs w B A G) (f : Fr B' S w w') (hB : B ≤ B') (hS : ∀ k, k < B → ¬ S k) : Errs w' B A G :=
  ⟨h.lt, fun g hg => (f.cell (p := ⟨g, 0, none⟩) (by have := (h.lt g hg).1; simp; omega) (hS _ (h.lt g hg).1)).trans (h.cell g hg),
   fun g hg => (h.blk g hg).fr f (by have := (h.lt g hg).2; omega) (hS _ (h.lt g hg).2), h.inj⟩
theorem Errs.sub {w : World} {B : Nat} {A : Nat → Addr} {G G' : List Nat} (h : Errs w B A G) (hs : ∀ g ∈ G', g ∈ G) : Errs w B A G' :=
  ⟨fun g hg => h.lt g (hs g hg), fun g hg => h.cell g (hs g hg), fun g hg => h.blk g (hs g hg), fun g hg g' hg' => h.inj g (hs g hg) g' (hs g' hg')⟩

end Go.Proofs.YtnlncfjibbdimaaDoor
