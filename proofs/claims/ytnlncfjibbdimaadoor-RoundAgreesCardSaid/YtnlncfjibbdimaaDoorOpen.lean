/-
  How the data of this seat's laws lie in memory: off the row's reading of an argument.
-/
import Derived.Test.YtnlncfjibbdimaaDoorLift
import Derived.Deep.Slices
namespace Go.Proofs.YtnlncfjibbdimaaDoor
open Go.ChangeShapes Go.WideShapes Go.ChangeAt Go.RowKit Go.Deep
set_option linter.unusedSimpArgs false
set_option linter.unusedVariables false

def I64 (n : Int) : Prop := -9223372036854775808 ≤ n ∧ n ≤ 9223372036854775807

section
variable {H : Type} {enc : TypeId × Value → H} {w : World} {base : Nat} {spare : Nat → Bool} {held : Bool} {fuel : Nat} {cs : List Value} {x : DataW H × List MemPlace}

theorem trod_i64 (h : DataW.trod enc Tryd.prog w base spare held fuel 3 cs = some x) : ∃ n, cs = [.int .i64 n] ∧ I64 n := by
  obtain ⟨n, h1, _, h2⟩ := DataW.trod_int Tryd.underlying3 h
  exact ⟨n, h1, bounds_i64 h2⟩

/-- A struct's field reads, from its own cells. -/
theorem trod_field {t : TypeId} {fs : Array Field} (ht : Tryd.prog.underlying t = some (.struct fs)) (h : DataW.trod enc Tryd.prog w base spare held fuel t cs = some x) (i : Nat) (f : Field) (hi : fs[i]? = some f) :
    ∃ n y, DataW.trod enc Tryd.prog w base spare held n f.type ((cs.drop f.offset).take (Tryd.prog.cellsOf f.type)) = some y := by
  obtain ⟨xs, n, _, _, hlen, hxs, hf⟩ := DataW.trod_struct ht h
  have h0 := hf i f hi
  have hl : i < xs.length := by rw [hxs]; exact (Array.getElem?_eq_some_iff.1 hi).1
  rw [List.getElem?_eq_getElem hl] at h0
  exact ⟨n, _, h0⟩
theorem trod_len {t : TypeId} {fs : Array Field} (ht : Tryd.prog.underlying t = some (.struct fs)) (h : DataW.trod enc Tryd.prog w base spare held fuel t cs = some x) : cs.length = Tryd.prog.cellsOf t := by
  obtain ⟨xs, n, _, _, hlen, _⟩ := DataW.trod_struct ht h
  exact hlen

theorem cellsOf3 : Tryd.prog.cellsOf 3 = 1 := by kernel_rfl
theorem cellsOf23 : Tryd.prog.cellsOf 23 = 2 := by kernel_rfl
theorem cellsOf25 : Tryd.prog.cellsOf 25 = 7 := by kernel_rfl

theorem list2 {α : Type} {l : List α} (h : l.length = 2) : ∃ a b, l = [a, b] := by
  match l, h with
  | [a, b], _ => exact ⟨a, b, rfl⟩

theorem trod_bal (h : DataW.trod enc Tryd.prog w base spare held fuel 23 cs = some x) : ∃ r n, cs = [.int .i64 r, .int .i64 n] ∧ I64 r ∧ I64 n := by
  have hlen := trod_len Tryd.underlying23 h
  obtain ⟨_, _, h0⟩ := trod_field Tryd.underlying23 h 0 _ rfl
  obtain ⟨_, _, h1⟩ := trod_field Tryd.underlying23 h 1 _ rfl
  rw [cellsOf23] at hlen
  obtain ⟨r, e0, b0⟩ := trod_i64 h0
  obtain ⟨k, e1, b1⟩ := trod_i64 h1
  clear h h0 h1
  obtain ⟨c0, c1, rfl⟩ := list2 hlen
  simp [cellsOf3] at e0 e1
  exact ⟨r, k, by rw [e0, e1], b0, b1⟩

theorem list7 {α : Type} {l : List α} (h : l.length = 7) : ∃ a b c d e f g, l = [a, b, c, d, e, f, g] := by
  match l, h with
  | [a, b, c, d, e, f, g], _ => exact ⟨a, b, c, d, e, f, g, rfl⟩

theorem trod_ballots (h : DataW.trod enc Tryd.prog w base spare held fuel 25 cs = some x) :
    ∃ r1 n1 r2 n2 r3 n3 N, cs = [.int .i64 r1, .int .i64 n1, .int .i64 r2, .int .i64 n2, .int .i64 r3, .int .i64 n3, .int .i64 N] ∧ I64 N := by
  have hlen := trod_len Tryd.underlying25 h
  obtain ⟨_, _, h0⟩ := trod_field Tryd.underlying25 h 0 _ rfl
  obtain ⟨_, _, h1⟩ := trod_field Tryd.underlying25 h 1 _ rfl
  obtain ⟨_, _, h2⟩ := trod_field Tryd.underlying25 h 2 _ rfl
  obtain ⟨_, _, h3⟩ := trod_field Tryd.underlying25 h 3 _ rfl
  rw [cellsOf25] at hlen
  obtain ⟨r1, n1, e0, _⟩ := trod_bal h0
  obtain ⟨r2, n2, e1, _⟩ := trod_bal h1
  obtain ⟨r3, n3, e2, _⟩ := trod_bal h2
  obtain ⟨N, e3, b3⟩ := trod_i64 h3
  clear h h0 h1 h2 h3
  obtain ⟨c0, c1, c2, c3, c4, c5, c6, rfl⟩ := list7 hlen
  simp [cellsOf3, cellsOf23] at e0 e1 e2 e3
  exact ⟨r1, n1, r2, n2, r3, n3, N, by rw [e0.1, e0.2, e1.1, e1.2, e2.1, e2.2, e3], b3⟩
end
end Go.Proofs.YtnlncfjibbdimaaDoor
