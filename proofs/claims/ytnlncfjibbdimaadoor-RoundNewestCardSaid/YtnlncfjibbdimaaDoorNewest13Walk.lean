/-
  RoundNewest: the walk, off the row's reading of its arguments.
-/
import Derived.Test.YtnlncfjibbdimaaDoorNewest13
import Derived.Test.YtnlncfjibbdimaaDoorArgs
import Derived.Test.YtnlncfjibbdimaaDoorOpen2
import Derived.Test.YtnlncfjibbdimaaDoorFrame
import Derived.Test.YtnlncfjibbdimaaDoorLift
namespace Go.Proofs.YtnlncfjibbdimaaDoor
open Go.ChangeShapes Go.WideShapes Go.ChangeAt Go.RowKit Go.Deep
set_option linter.unusedSimpArgs false
set_option linter.unusedVariables false

section
variable {H : Type} {enc : TypeId × Value → H} {w : World} {base : Nat} {spare : Nat → Bool} {held : Bool} {fuel : Nat} {cs : List Value} {x : DataW H × List MemPlace}
theorem bytesOf23 : Tryd.prog.bytesOf 23 = 16 := by kernel_rfl
theorem open_bals (h : DataW.trod enc Tryd.prog w base spare held fuel 38 cs = some x) (hx : Light 38 x.1) : ∃ v os, cs = [v] ∧ BalsAt w v os := by
  obtain ⟨A, n, c, rfl, h1, h2, h3, h4⟩ := open_rows 2 16 Tryd.underlying38 cellsOf23 bytesOf23 h hx
  obtain ⟨f, hf⟩ := choose_lt (α := Bl) (n := n) (p := fun i b => ∃ q o, A = some ⟨q, o, none⟩ ∧ q < w.heap.size ∧ w.rangeAt q (o + i * 2) [.int .i64 b.1, .int .i64 b.2]) (fun i hi => by
    obtain ⟨ad, cs', m, y, e1, e2, e3, e4, e5⟩ := h4 i hi
    obtain ⟨r, nn, rfl, _⟩ := trod_bal e4
    obtain ⟨b, k, sp⟩ := ad
    obtain ⟨ad0, cs0, _, _, e10, e20, _, e40, e50⟩ := h4 0 (by omega)
    obtain ⟨r0, nn0, rfl, _⟩ := trod_bal e40
    have hsp : sp = none := by
      have e : (⟨b, k, sp⟩ : Addr) = ad0 := by rw [e1] at e10; exact Option.some.inj e10
      have h1 := e20 0 (by omega)
      rw [← e] at h1
      have h2 : ([Value.int .i64 r0, .int .i64 nn0])[0]? = some (.int .i64 r0) := rfl
      rw [h2] at h1
      simpa [Addr.add] using World.cell?_spot h1
    subst hsp
    refine ⟨(r, nn), b, k, e1, ?_, fun j v hv => ?_⟩
    · have hc := e2 0 (by omega)
      have := World.block_lt_of_cell? w _ (hc.trans (rfl : _ = some (Value.int .i64 r)))
      rwa [block_of_add] at this
    · have hj : j < 2 := (List.getElem?_eq_some_iff.1 hv).1
      have := e2 j hj
      rw [Addr.add_mid] at this
      rw [← hv, ← this, Nat.add_assoc])
  have hlen : ((List.range n).map f).length = n := by simp
  refine ⟨_, (List.range n).map f, rfl, A, c, by rw [hlen], by rw [hlen]; exact h1, h2, ?_⟩
  intro i o ho
  have hi : i < n := by have := (List.getElem?_eq_some_iff.1 ho).1; simpa using this
  simp [hi] at ho
  subst ho
  exact hf i hi
end

def sentsRoundNewest : List (String × Nat × List UInt8) := [("bollard/api.ErrNumber", 0, [98, 111, 108, 108, 97, 114, 100, 58, 32, 110, 117, 109, 98, 101, 114]), ("bollard/api.ErrGone", 10, [98, 111, 108, 108, 97, 114, 100, 58, 32, 103, 111, 110, 101]), ("bollard/api.ErrFull", 4, [98, 111, 108, 108, 97, 114, 100, 58, 32, 102, 117, 108, 108]), ("bollard/api.ErrBallot", 3, [98, 111, 108, 108, 97, 114, 100, 58, 32, 98, 97, 108, 108, 111, 116]), ("bollard/api.ErrState", 1, [98, 111, 108, 108, 97, 114, 100, 58, 32, 115, 116, 97, 116, 101])]
theorem sentsRoundNewest_ok : ∀ x ∈ sentsRoundNewest, SentOk x := by
  intro x hx
  simp only [sentsRoundNewest, List.mem_cons, List.not_mem_nil, or_false] at hx
  rcases hx with rfl | rfl | rfl | rfl | rfl
  · exact ⟨by kernel_rfl, by kernel_rfl⟩
  · exact ⟨by kernel_rfl, by kernel_rfl⟩
  · exact ⟨by kernel_rfl, by kernel_rfl⟩
  · exact ⟨by kernel_rfl, by kernel_rfl⟩
  · exact ⟨by kernel_rfl, by kernel_rfl⟩

theorem E13.of10 {W : World} {B : Nat} {A : Nat → Addr} {G : List Nat} (hE : Errs W B A G) (h : ∀ q, q = 0 ∨ q = 1 ∨ q = 3 ∨ q = 4 ∨ q = 10 → q ∈ G) : E13 W A := fun q hq => hE.cell q (h q hq)

set_option maxRecDepth 100000 in
theorem roundNewest_walk : LawWalk 10 Tryd.f10 (sentsRoundNewest.map (·.2.1)) := by
  intro H enc W base args ds p A hA hval hsz hlt hE
  rw [Tryd.params10] at hA hval hsz
  obtain ⟨v0, vs0, d0, ds0, p0, q0, hargs, rfl, rfl, h0, r0⟩ := trodAll_cons hA
  obtain ⟨v1, vs1, d1, ds1, p1, q1, hargs1, rfl, rfl, h1, r1⟩ := trodAll_cons r0
  obtain ⟨v2, vs2, d2, ds2, p2, q2, hargs2, rfl, rfl, h2, r2⟩ := trodAll_cons r1
  obtain ⟨rfl, rfl, rfl⟩ := trodAll_nil r2
  obtain rfl : args = #[v0, v1, v2] := by cases args; simp_all
  have hl1 : Light 38 d1 := light_of_each (j := 1) hsz rfl rfl
  have hl2 : Light 40 d2 := light_of_each (j := 2) hsz rfl rfl
  have c0 := arg_int' Tryd.underlying3 (hval 0 3 v0 rfl rfl)
  have c1 := arg_slice' Tryd.underlying38 (hval 1 38 v1 rfl rfl)
  have c2 := arg_slice' Tryd.underlying40 (hval 2 40 v2 rfl rfl)
  obtain ⟨f0, h0⟩ := h0
  obtain ⟨f1, h1⟩ := h1
  obtain ⟨f2, h2⟩ := h2
  rw [c0] at h0
  rw [c1] at h1
  rw [c2] at h2
  obtain ⟨nodes, e0, _⟩ := trod_i64 h0
  obtain ⟨tv, told, e1, hT⟩ := open_bals h1 hl1
  obtain ⟨gv, tags, e2, hG, _⟩ := open_intsAt h2 hl2
  injection e0 with e0 _
  injection e1 with e1 _
  injection e2 with e2 _
  subst e0; subst e1; subst e2
  exact roundNewest_any W A (E13.of10 hE (fun q hq => by simp only [sentsRoundNewest, List.map_cons, List.map_nil]; simp; omega)) nodes v1 v2 told tags hT hG
end Go.Proofs.YtnlncfjibbdimaaDoor
