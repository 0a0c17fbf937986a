/-
  RoundHalves: the walk, off the row's reading of its arguments.
-/
import Derived.Test.YtnlncfjibbdimaaDoorHalves13
import Derived.Test.YtnlncfjibbdimaaDoorArgs
import Derived.Test.YtnlncfjibbdimaaDoorOpen2
import Derived.Test.YtnlncfjibbdimaaDoorFrame
import Derived.Test.YtnlncfjibbdimaaDoorLift
namespace Go.Proofs.YtnlncfjibbdimaaDoor
open Go.ChangeShapes Go.WideShapes Go.ChangeAt Go.RowKit Go.Deep
set_option linter.unusedSimpArgs false
set_option linter.unusedVariables false

section
variable {H : Type} {enc : TypeId × Value → H} {w : World} {base : Nat} {spare : Nat → Bool} {held : Bool} {fuel : Nat} {cs : List Value} {x : DataW H × List MemPlace}
theorem trod_piece_sz (h : DataW.trod enc Tryd.prog w base spare held fuel 79 cs = some x) : ∃ a b c z s, cs = [.int .i64 a, .int .i64 b, .int .i64 c, .int .i64 z, .string s] ∧ s.size ≤ maxLen := by
  have hlen := trod_len Tryd.underlying79 h
  obtain ⟨_, _, h0⟩ := trod_field Tryd.underlying79 h 0 _ rfl
  obtain ⟨_, _, h1⟩ := trod_field Tryd.underlying79 h 1 _ rfl
  obtain ⟨_, _, h2⟩ := trod_field Tryd.underlying79 h 2 _ rfl
  rw [cellsOf79] at hlen
  obtain ⟨a, b, c, e0, _⟩ := trod_id h0
  obtain ⟨z, e1, _⟩ := trod_i64 h1
  obtain ⟨s, e2, zs⟩ := trod_str h2
  clear h h0 h1 h2
  obtain ⟨c0, c1, c2, c3, c4, rfl⟩ := list5 hlen
  simp [cellsOf3, cellsOf74, cells9] at e0 e1 e2
  exact ⟨a, b, c, z, s, by rw [e0.1, e0.2.1, e0.2.2, e1, e2], zs⟩

theorem open_cmd_sz13 (h : DataW.trod enc Tryd.prog w base spare held fuel 81 cs = some x) (hx : Light 81 x.1) : ∃ c, CmdAt w 0 w.heap.size cs c ∧ c.Sized := by
  have hlen := trod_len Tryd.underlying81 h
  obtain ⟨_, _, h0⟩ := trod_field Tryd.underlying81 h 0 _ rfl
  obtain ⟨_, _, h1⟩ := trod_field Tryd.underlying81 h 1 _ rfl
  obtain ⟨_, _, h2⟩ := trod_field Tryd.underlying81 h 2 _ rfl
  obtain ⟨_, _, h3⟩ := trod_field Tryd.underlying81 h 3 _ rfl
  obtain ⟨_, _, h4⟩ := trod_field Tryd.underlying81 h 4 _ rfl
  obtain ⟨_, _, h5⟩ := trod_field Tryd.underlying81 h 5 _ rfl
  obtain ⟨_, _, h6⟩ := trod_field Tryd.underlying81 h 6 _ rfl
  obtain ⟨_, _, h7, l7⟩ := light_field Tryd.underlying81 h hx 7 _ rfl
  obtain ⟨_, _, h8⟩ := trod_field Tryd.underlying81 h 8 _ rfl
  obtain ⟨_, _, h9⟩ := trod_field Tryd.underlying81 h 9 _ rfl
  rw [cellsOf81] at hlen
  obtain ⟨kind, e0, _⟩ := trod_i64 h0
  obtain ⟨i1, i2, i3, e1, _⟩ := trod_id h1
  obtain ⟨bu, e2, zb⟩ := trod_str h2
  obtain ⟨ke, e3, zk⟩ := trod_str h3
  obtain ⟨u1, u2, u3, e4, _⟩ := trod_id h4
  obtain ⟨p1, p2, p3, pz, pe, e5, ze⟩ := trod_piece_sz h5
  obtain ⟨part, e6, _⟩ := trod_i64 h6
  obtain ⟨pv, parts, e7, hi, _⟩ := open_intsAt h7 l7
  obtain ⟨time, e8, _⟩ := trod_i64 h8
  obtain ⟨days, e9, _⟩ := trod_i64 h9
  clear h h0 h1 h2 h3 h4 h5 h6 h7 h8 h9 l7 hx
  obtain ⟨c0, c1, c2, c3, c4, c5, c6, c7, c8, c9, c10, c11, c12, c13, c14, c15, c16, c17, rfl⟩ := list18 hlen
  simp [cellsOf3, cellsOf74, cells9, cellsOf79, cellsOf40] at e0 e1 e2 e3 e4 e5 e6 e7 e8 e9
  refine ⟨⟨kind, i1, i2, i3, bu, ke, u1, u2, u3, p1, p2, p3, pz, pe, part, parts, time, days⟩, ⟨pv, ?_, hi⟩, zb, zk, ze⟩
  simp only [Cmd.cells, e0, e1.1, e1.2.1, e1.2.2, e2, e3, e4.1, e4.2.1, e4.2.2, e5.1, e5.2.1, e5.2.2.1, e5.2.2.2.1, e5.2.2.2.2, e6, e7, e8, e9]

end

def sentsRoundHalves : List (String × Nat × List UInt8) := [("bollard/api.ErrNumber", 0, [98, 111, 108, 108, 97, 114, 100, 58, 32, 110, 117, 109, 98, 101, 114]), ("bollard/api.ErrGone", 10, [98, 111, 108, 108, 97, 114, 100, 58, 32, 103, 111, 110, 101]), ("bollard/api.ErrFull", 4, [98, 111, 108, 108, 97, 114, 100, 58, 32, 102, 117, 108, 108]), ("bollard/api.ErrBallot", 3, [98, 111, 108, 108, 97, 114, 100, 58, 32, 98, 97, 108, 108, 111, 116]), ("bollard/api.ErrState", 1, [98, 111, 108, 108, 97, 114, 100, 58, 32, 115, 116, 97, 116, 101])]
theorem sentsRoundHalves_ok : ∀ x ∈ sentsRoundHalves, SentOk x := by
  intro x hx
  simp only [sentsRoundHalves, List.mem_cons, List.not_mem_nil, or_false] at hx
  rcases hx with rfl | rfl | rfl | rfl | rfl
  · exact ⟨by kernel_rfl, by kernel_rfl⟩
  · exact ⟨by kernel_rfl, by kernel_rfl⟩
  · exact ⟨by kernel_rfl, by kernel_rfl⟩
  · exact ⟨by kernel_rfl, by kernel_rfl⟩
  · exact ⟨by kernel_rfl, by kernel_rfl⟩

theorem E13.of11 {W : World} {B : Nat} {A : Nat → Addr} {G : List Nat} (hE : Errs W B A G) (h : ∀ q, q = 0 ∨ q = 1 ∨ q = 3 ∨ q = 4 ∨ q = 10 → q ∈ G) : E13 W A := fun q hq => hE.cell q (h q hq)

set_option maxRecDepth 100000 in
theorem roundHalves_walk : LawWalk 11 Tryd.f11 (sentsRoundHalves.map (·.2.1)) := by
  intro H enc W base args ds p A hA hval hsz hlt hE
  rw [Tryd.params11] at hA hval hsz
  obtain ⟨v0, vs0, d0, ds0, p0, q0, hargs, rfl, rfl, h0, r0⟩ := trodAll_cons hA
  obtain ⟨v1, vs1, d1, ds1, p1, q1, hargs1, rfl, rfl, h1, r1⟩ := trodAll_cons r0
  obtain ⟨v2, vs2, d2, ds2, p2, q2, hargs2, rfl, rfl, h2, r2⟩ := trodAll_cons r1
  obtain ⟨rfl, rfl, rfl⟩ := trodAll_nil r2
  obtain rfl : args = #[v0, v1, v2] := by cases args; simp_all
  have hl1 : Light 81 d1 := light_of_each (j := 1) hsz rfl rfl
  have hl2 : Light 40 d2 := light_of_each (j := 2) hsz rfl rfl
  have c0 := arg_int' Tryd.underlying3 (hval 0 3 v0 rfl rfl)
  have c2 := arg_slice' Tryd.underlying40 (hval 2 40 v2 rfl rfl)
  obtain ⟨cs1, rfl, _⟩ := okWide_struct Tryd.underlying81 (hval 1 81 v1 rfl rfl)
  obtain ⟨f0, h0⟩ := h0
  obtain ⟨f1, h1⟩ := h1
  obtain ⟨f2, h2⟩ := h2
  rw [c0] at h0
  rw [c2] at h2
  obtain ⟨nodes, e0, _⟩ := trod_i64 h0
  obtain ⟨c, ⟨pv, hcs, hp⟩, hz⟩ := open_cmd_sz13 h1 hl1
  obtain ⟨ov, order, e2, hO, _⟩ := open_intsAt h2 hl2
  injection e0 with e0 _
  injection e2 with e2 _
  have ec : cs1 = (c.cells pv).toArray := by
    have e : (Value.agg cs1).cells.toList = cs1.toList := rfl
    rw [e] at hcs
    rw [← Array.toArray_toList (xs := cs1), hcs]
  subst e0 ec e2
  exact roundHalves_any W A (E13.of11 hE (fun q hq => by simp only [sentsRoundHalves, List.map_cons, List.map_nil]; simp; omega)) nodes c hz pv hp v2 order hO
end Go.Proofs.YtnlncfjibbdimaaDoor
