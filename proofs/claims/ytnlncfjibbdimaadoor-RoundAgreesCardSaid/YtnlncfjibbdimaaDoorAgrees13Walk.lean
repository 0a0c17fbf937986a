/-
  RoundAgrees: the walk, off the row's reading of its arguments.
-/
import Derived.Test.YtnlncfjibbdimaaDoorAgrW13
import Derived.Test.YtnlncfjibbdimaaDoorArgs
import Derived.Test.YtnlncfjibbdimaaDoorOpen2
import Derived.Test.YtnlncfjibbdimaaDoorFrame
import Derived.Test.YtnlncfjibbdimaaDoorLift
namespace Go.Proofs.YtnlncfjibbdimaaDoor
open Go.ChangeShapes Go.WideShapes Go.ChangeAt Go.RowKit Go.Deep
set_option linter.unusedSimpArgs false
set_option linter.unusedVariables false

section
variable {H : Type} {enc : TypeId × Value → H} {w : World} {base : Nat} {spare : Nat → Bool} {held : Bool} {fuel : Nat} {cs : List Value} {x : DataW H × List MemPlace}
theorem cellsOf128 : Tryd.prog.cellsOf 128 = 3 := by kernel_rfl
theorem bytesOf128 : Tryd.prog.bytesOf 128 = 24 := by kernel_rfl
theorem list3_13 {α : Type} {l : List α} (h : l.length = 3) : ∃ a b c, l = [a, b, c] := by
  match l, h with
  | [a, b, c], _ => exact ⟨a, b, c, rfl⟩
theorem open_act13 (h : DataW.trod enc Tryd.prog w base spare held fuel 128 cs = some x) (hx : Light 128 x.1) : ∃ o : ActR13, cs = o.cells := by
  have hlen := trod_len Tryd.underlying128 h
  obtain ⟨_, _, h0⟩ := trod_field Tryd.underlying128 h 0 _ rfl
  obtain ⟨_, _, h1⟩ := trod_field Tryd.underlying128 h 1 _ rfl
  obtain ⟨_, _, h2⟩ := trod_field Tryd.underlying128 h 2 _ rfl
  rw [cellsOf128] at hlen
  obtain ⟨a, e0, _⟩ := trod_i64 h0
  obtain ⟨b, e1, _⟩ := trod_i64 h1
  obtain ⟨c, e2, _⟩ := trod_i64 h2
  clear h h0 h1 h2 hx
  obtain ⟨c0, c1, c2, rfl⟩ := list3_13 hlen
  simp [cellsOf3] at e0 e1 e2
  exact ⟨⟨a, b, c⟩, by simp only [ActR13.cells, e0, e1, e2]⟩
instance : Inhabited ActR13 := ⟨⟨0, 0, 0⟩⟩
theorem open_acts13 (h : DataW.trod enc Tryd.prog w base spare held fuel 124 cs = some x) (hx : Light 124 x.1) : ∃ v os, cs = [v] ∧ ActsAt13 w v os := by
  obtain ⟨A, n, c, rfl, h1, h2, h3, h4⟩ := open_rows 3 24 Tryd.underlying124 cellsOf128 bytesOf128 h hx
  obtain ⟨f, hf⟩ := choose_lt (α := ActR13) (n := n) (p := fun i o => ∃ b k, A = some ⟨b, k, none⟩ ∧ b < w.heap.size ∧ w.rangeAt b (k + i * 3) o.cells) (fun i hi => by
    obtain ⟨ad, cs', m, y, e1, e2, e3, e4, e5⟩ := h4 i hi
    obtain ⟨o, rfl⟩ := open_act13 e4 e5
    obtain ⟨b, k, sp⟩ := ad
    obtain ⟨ad0, cs0, _, _, e10, e20, _, e40, e50⟩ := h4 0 (by omega)
    obtain ⟨o0, rfl⟩ := open_act13 e40 e50
    have hsp : sp = none := by
      have e : (⟨b, k, sp⟩ : Addr) = ad0 := by rw [e1] at e10; exact Option.some.inj e10
      have h1 := e20 0 (by omega)
      rw [← e] at h1
      have h2 : (o0.cells)[0]? = some (.int .i64 o0.k) := rfl
      rw [h2] at h1
      simpa [Addr.add] using World.cell?_spot h1
    subst hsp
    refine ⟨o, b, k, e1, ?_, fun j v hv => ?_⟩
    · have hc := e2 0 (by omega)
      have := World.block_lt_of_cell? w _ (hc.trans (rfl : o.cells[0]? = some _))
      rwa [block_of_add] at this
    · have hj : j < 3 := (List.getElem?_eq_some_iff.1 hv).1
      have := e2 j hj
      rw [Addr.add_mid] at this
      rw [← hv, ← this, Nat.add_assoc])
  have hlen : ((List.range n).map f).length = n := by simp
  refine ⟨_, (List.range n).map f, rfl, A, c, by rw [hlen], by rw [hlen]; exact h1, h2, ?_⟩
  intro i o ho
  have hi : i < n := by have := (List.getElem?_eq_some_iff.1 ho).1; simpa using this
  simp [hi] at ho
  subst ho
  exact hf i hi
end

def sentsRoundAgrees : List (String × Nat × List UInt8) := [("bollard/api.ErrNumber", 0, [98, 111, 108, 108, 97, 114, 100, 58, 32, 110, 117, 109, 98, 101, 114]), ("bollard/api.ErrGone", 10, [98, 111, 108, 108, 97, 114, 100, 58, 32, 103, 111, 110, 101]), ("bollard/api.ErrFull", 4, [98, 111, 108, 108, 97, 114, 100, 58, 32, 102, 117, 108, 108]), ("bollard/api.ErrBallot", 3, [98, 111, 108, 108, 97, 114, 100, 58, 32, 98, 97, 108, 108, 111, 116]), ("bollard/api.ErrState", 1, [98, 111, 108, 108, 97, 114, 100, 58, 32, 115, 116, 97, 116, 101])]
theorem sentsRoundAgrees_ok : ∀ x ∈ sentsRoundAgrees, SentOk x := by
  intro x hx
  simp only [sentsRoundAgrees, List.mem_cons, List.not_mem_nil, or_false] at hx
  rcases hx with rfl | rfl | rfl | rfl | rfl
  · exact ⟨by kernel_rfl, by kernel_rfl⟩
  · exact ⟨by kernel_rfl, by kernel_rfl⟩
  · exact ⟨by kernel_rfl, by kernel_rfl⟩
  · exact ⟨by kernel_rfl, by kernel_rfl⟩
  · exact ⟨by kernel_rfl, by kernel_rfl⟩

set_option maxRecDepth 100000 in
theorem roundAgrees_walk : LawWalk 14 Tryd.f14 (sentsRoundAgrees.map (·.2.1)) := by
  intro H enc W base args ds p A hA hval hsz hlt hE
  rw [Tryd.params14] at hA hval hsz
  obtain ⟨v0, vs0, d0, ds0, p0, q0, hargs, rfl, rfl, h0, r0⟩ := trodAll_cons hA
  obtain ⟨v1, vs1, d1, ds1, p1, q1, hargs1, rfl, rfl, h1, r1⟩ := trodAll_cons r0
  obtain ⟨rfl, rfl, rfl⟩ := trodAll_nil r1
  obtain rfl : args = #[v0, v1] := by cases args; simp_all
  have hl1 : Light 124 d1 := light_of_each (j := 1) hsz rfl rfl
  have c0 := arg_int' Tryd.underlying3 (hval 0 3 v0 rfl rfl)
  have c1 := arg_slice' Tryd.underlying124 (hval 1 124 v1 rfl rfl)
  obtain ⟨f0, h0⟩ := h0
  obtain ⟨f1, h1⟩ := h1
  rw [c0] at h0
  rw [c1] at h1
  obtain ⟨nodes, e0, _⟩ := trod_i64 h0
  obtain ⟨ov, os, e1, hO⟩ := open_acts13 h1 hl1
  injection e0 with e0 _
  injection e1 with e1 _
  subst e0 e1
  exact roundAgrees_any nodes v1 os W A (fun q hq => hE.cell q (by simp only [sentsRoundAgrees, List.map_cons, List.map_nil]; rcases hq with rfl | rfl | rfl | rfl | rfl <;> simp)) hO
end Go.Proofs.YtnlncfjibbdimaaDoor
