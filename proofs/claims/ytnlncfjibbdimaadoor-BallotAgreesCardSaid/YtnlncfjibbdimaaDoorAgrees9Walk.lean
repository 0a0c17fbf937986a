/-
  BallotAgrees: the walk, off the row's reading of its arguments.
-/
import Derived.Test.YtnlncfjibbdimaaDoorAgreesW
import Derived.Test.YtnlncfjibbdimaaDoorArgs
import Derived.Test.YtnlncfjibbdimaaDoorFrame
import Derived.Test.YtnlncfjibbdimaaDoorLift
namespace Go.Proofs.YtnlncfjibbdimaaDoor
open Go.ChangeShapes Go.WideShapes Go.ChangeAt Go.RowKit Go.Deep
set_option linter.unusedSimpArgs false
set_option linter.unusedVariables false

section
variable {H : Type} {enc : TypeId × Value → H} {w : World} {base : Nat} {spare : Nat → Bool} {held : Bool} {fuel : Nat} {cs : List Value} {x : DataW H × List MemPlace}
theorem cellsOf45 : Tryd.prog.cellsOf 45 = 6 := by kernel_rfl
theorem bytesOf45 : Tryd.prog.bytesOf 45 = 80 := by kernel_rfl
theorem cellsOf4 : Tryd.prog.cellsOf 4 = 1 := by kernel_rfl
theorem list6 {α : Type} {l : List α} (h : l.length = 6) : ∃ a b c d e f, l = [a, b, c, d, e, f] := by
  match l, h with
  | [a, b, c, d, e, f], _ => exact ⟨a, b, c, d, e, f, rfl⟩
theorem open_rnd (h : DataW.trod enc Tryd.prog w base spare held fuel 45 cs = some x) (hx : Light 45 x.1) : ∃ o : RndR, cs = o.cells ∧ o.ok w := by
  have hlen := trod_len Tryd.underlying45 h
  obtain ⟨_, _, h0⟩ := trod_field Tryd.underlying45 h 0 _ rfl
  obtain ⟨_, _, h1, l1⟩ := light_field Tryd.underlying45 h hx 1 _ rfl
  obtain ⟨_, _, h2, l2⟩ := light_field Tryd.underlying45 h hx 2 _ rfl
  obtain ⟨_, _, h3⟩ := trod_field Tryd.underlying45 h 3 _ rfl
  obtain ⟨_, _, h4⟩ := trod_field Tryd.underlying45 h 4 _ rfl
  rw [cellsOf45] at hlen
  obtain ⟨r, n, e0, b0, b1⟩ := trod_bal h0
  obtain ⟨av, asks, e1, ha, _⟩ := open_intsAt h1 l1
  obtain ⟨tv, takes, e2, ht, _⟩ := open_intsAt h2 l2
  obtain ⟨tag, e3, _⟩ := trod_i64 h3
  obtain ⟨late, e4, _⟩ := DataW.trod_bool Tryd.underlying4 h4
  clear h h0 h1 h2 h3 h4 hx
  obtain ⟨c0, c1, c2, c3, c4, c5, rfl⟩ := list6 hlen
  simp [cellsOf3, cellsOf23, cellsOf40, cellsOf4] at e0 e1 e2 e3 e4
  exact ⟨⟨r, n, av, asks, tv, takes, tag, late⟩, by simp only [RndR.cells, e0.1, e0.2, e1, e2, e3, e4], ha, ht⟩
instance : Inhabited RndR := ⟨⟨0, 0, .slice none 0 0, [], .slice none 0 0, [], 0, false⟩⟩
theorem open_rounds (h : DataW.trod enc Tryd.prog w base spare held fuel 30 cs = some x) (hx : Light 30 x.1) : ∃ v os, cs = [v] ∧ RoundsAt w v os := by
  obtain ⟨A, n, c, rfl, h1, h2, h3, h4⟩ := open_rows 6 80 Tryd.underlying30 cellsOf45 bytesOf45 h hx
  obtain ⟨f, hf⟩ := choose_lt (α := RndR) (n := n) (p := fun i o => ∃ b k, A = some ⟨b, k, none⟩ ∧ b < w.heap.size ∧ w.rangeAt b (k + i * 6) o.cells ∧ o.ok w) (fun i hi => by
    obtain ⟨ad, cs', m, y, e1, e2, e3, e4, e5⟩ := h4 i hi
    obtain ⟨o, rfl, ho⟩ := open_rnd e4 e5
    obtain ⟨b, k, sp⟩ := ad
    obtain ⟨ad0, cs0, _, _, e10, e20, _, e40, e50⟩ := h4 0 (by omega)
    obtain ⟨o0, rfl, _⟩ := open_rnd e40 e50
    have hsp : sp = none := by
      have e : (⟨b, k, sp⟩ : Addr) = ad0 := by rw [e1] at e10; exact Option.some.inj e10
      have h1 := e20 0 (by omega)
      rw [← e] at h1
      have h2 : (o0.cells)[0]? = some (.int .i64 o0.r) := rfl
      rw [h2] at h1
      simpa [Addr.add] using World.cell?_spot h1
    subst hsp
    refine ⟨o, b, k, e1, ?_, fun j v hv => ?_, ho⟩
    · have hc := e2 0 (by omega)
      have := World.block_lt_of_cell? w _ (hc.trans (rfl : o.cells[0]? = some _))
      rwa [block_of_add] at this
    · have hj : j < 6 := (List.getElem?_eq_some_iff.1 hv).1
      have := e2 j hj
      rw [Addr.add_mid] at this
      rw [← hv, ← this, Nat.add_assoc])
  have hlen : ((List.range n).map f).length = n := by simp
  refine ⟨_, (List.range n).map f, rfl, A, c, by rw [hlen], by rw [hlen]; exact h1, h2, ?_⟩
  intro i o ho
  have hi : i < n := by have := (List.getElem?_eq_some_iff.1 ho).1; simpa using this
  simp [hi] at ho
  subst ho
  exact hf i hi
end

def sentsBallotAgrees : List (String × Nat × List UInt8) := [("bollard/api.ErrNumber", 0, [98, 111, 108, 108, 97, 114, 100, 58, 32, 110, 117, 109, 98, 101, 114]), ("bollard/api.ErrBallot", 3, [98, 111, 108, 108, 97, 114, 100, 58, 32, 98, 97, 108, 108, 111, 116])]
theorem sentsBallotAgrees_ok : ∀ x ∈ sentsBallotAgrees, SentOk x := by
  intro x hx
  simp only [sentsBallotAgrees, List.mem_cons, List.not_mem_nil, or_false] at hx
  rcases hx with rfl | rfl
  · exact ⟨by kernel_rfl, by kernel_rfl⟩
  · exact ⟨by kernel_rfl, by kernel_rfl⟩

set_option maxRecDepth 100000 in
theorem ballotAgrees_walk : LawWalk 4 Tryd.f4 (sentsBallotAgrees.map (·.2.1)) := by
  intro H enc W base args ds p A hA hval hsz hlt hE
  rw [Tryd.params4] at hA hval hsz
  obtain ⟨v0, vs0, d0, ds0, p0, q0, hargs, rfl, rfl, h0, r0⟩ := trodAll_cons hA
  obtain ⟨v1, vs1, d1, ds1, p1, q1, hargs1, rfl, rfl, h1, r1⟩ := trodAll_cons r0
  obtain ⟨rfl, rfl, rfl⟩ := trodAll_nil r1
  obtain rfl : args = #[v0, v1] := by cases args; simp_all
  have hl1 : Light 30 d1 := light_of_each (j := 1) hsz rfl rfl
  have c0 := arg_int' Tryd.underlying3 (hval 0 3 v0 rfl rfl)
  have c1 := arg_slice' Tryd.underlying30 (hval 1 30 v1 rfl rfl)
  obtain ⟨f0, h0⟩ := h0
  obtain ⟨f1, h1⟩ := h1
  rw [c0] at h0
  rw [c1] at h1
  obtain ⟨node, e0, _⟩ := trod_i64 h0
  obtain ⟨v, os, e1, hS⟩ := open_rounds h1 hl1
  injection e0 with e0 _
  injection e1 with e1 _
  subst e0; subst e1
  exact agrees_any node v1 os W A (hE.cell 0 (by simp [sentsBallotAgrees])) (hE.cell 3 (by simp [sentsBallotAgrees])) hS

end Go.Proofs.YtnlncfjibbdimaaDoor
