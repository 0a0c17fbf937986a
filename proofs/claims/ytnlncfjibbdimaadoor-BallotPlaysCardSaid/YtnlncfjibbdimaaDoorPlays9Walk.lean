/-
  BallotPlays: the walk, off the row's reading of its arguments.
-/
import Derived.Test.YtnlncfjibbdimaaDoorPlays9
import Derived.Test.YtnlncfjibbdimaaDoorArgs
namespace Go.Proofs.YtnlncfjibbdimaaDoor
open Go.ChangeShapes Go.WideShapes Go.ChangeAt Go.RowKit
set_option linter.unusedSimpArgs false
set_option linter.unusedVariables false

def sentsBallotPlays : List (String × Nat × List UInt8) := [("bollard/api.ErrParams", 5, [98, 111, 108, 108, 97, 114, 100, 58, 32, 112, 97, 114, 97, 109, 115]), ("bollard/api.ErrNumber", 0, [98, 111, 108, 108, 97, 114, 100, 58, 32, 110, 117, 109, 98, 101, 114]), ("bollard/api.ErrData", 6, [98, 111, 108, 108, 97, 114, 100, 58, 32, 100, 97, 116, 97]), ("bollard/api.ErrLost", 7, [98, 111, 108, 108, 97, 114, 100, 58, 32, 108, 111, 115, 116]), ("bollard/api.ErrBytes", 2, [98, 111, 108, 108, 97, 114, 100, 58, 32, 98, 121, 116, 101, 115]), ("bollard/api.ErrDigest", 8, [98, 111, 108, 108, 97, 114, 100, 58, 32, 100, 105, 103, 101, 115, 116]), ("bollard/api.ErrName", 9, [98, 111, 108, 108, 97, 114, 100, 58, 32, 110, 97, 109, 101]), ("bollard/api.ErrGone", 10, [98, 111, 108, 108, 97, 114, 100, 58, 32, 103, 111, 110, 101]), ("bollard/api.ErrThere", 11, [98, 111, 108, 108, 97, 114, 100, 58, 32, 116, 104, 101, 114, 101]), ("bollard/api.ErrFull", 4, [98, 111, 108, 108, 97, 114, 100, 58, 32, 102, 117, 108, 108]), ("bollard/api.ErrLarge", 12, [98, 111, 108, 108, 97, 114, 100, 58, 32, 108, 97, 114, 103, 101]), ("bollard/api.ErrBallot", 3, [98, 111, 108, 108, 97, 114, 100, 58, 32, 98, 97, 108, 108, 111, 116]), ("bollard/api.ErrRequest", 13, [98, 111, 108, 108, 97, 114, 100, 58, 32, 114, 101, 113, 117, 101, 115, 116]), ("bollard/api.ErrUri", 14, [98, 111, 108, 108, 97, 114, 100, 58, 32, 117, 114, 105]), ("bollard/api.ErrDenied", 15, [98, 111, 108, 108, 97, 114, 100, 58, 32, 100, 101, 110, 105, 101, 100]), ("bollard/api.ErrSkew", 16, [98, 111, 108, 108, 97, 114, 100, 58, 32, 115, 107, 101, 119]), ("bollard/api.ErrMethod", 17, [98, 111, 108, 108, 97, 114, 100, 58, 32, 109, 101, 116, 104, 111, 100]), ("bollard/api.ErrState", 1, [98, 111, 108, 108, 97, 114, 100, 58, 32, 115, 116, 97, 116, 101])]
theorem sentsBallotPlays_ok : ∀ x ∈ sentsBallotPlays, SentOk x := by
  intro x hx
  simp only [sentsBallotPlays, List.mem_cons, List.not_mem_nil, or_false] at hx
  rcases hx with rfl | rfl | rfl | rfl | rfl | rfl | rfl | rfl | rfl | rfl | rfl | rfl | rfl | rfl | rfl | rfl | rfl | rfl
  · exact ⟨by kernel_rfl, by kernel_rfl⟩
  · exact ⟨by kernel_rfl, by kernel_rfl⟩
  · exact ⟨by kernel_rfl, by kernel_rfl⟩
  · exact ⟨by kernel_rfl, by kernel_rfl⟩
  · exact ⟨by kernel_rfl, by kernel_rfl⟩
  · exact ⟨by kernel_rfl, by kernel_rfl⟩
  · exact ⟨by kernel_rfl, by kernel_rfl⟩
  · exact ⟨by kernel_rfl, by kernel_rfl⟩
  · exact ⟨by kernel_rfl, by kernel_rfl⟩
  · exact ⟨by kernel_rfl, by kernel_rfl⟩
  · exact ⟨by kernel_rfl, by kernel_rfl⟩
  · exact ⟨by kernel_rfl, by kernel_rfl⟩
  · exact ⟨by kernel_rfl, by kernel_rfl⟩
  · exact ⟨by kernel_rfl, by kernel_rfl⟩
  · exact ⟨by kernel_rfl, by kernel_rfl⟩
  · exact ⟨by kernel_rfl, by kernel_rfl⟩
  · exact ⟨by kernel_rfl, by kernel_rfl⟩
  · exact ⟨by kernel_rfl, by kernel_rfl⟩

theorem cellsOf53 : Tryd.prog.cellsOf 53 = 3 := by kernel_rfl
set_option maxRecDepth 100000 in
theorem ballotPlays_walk : LawWalk 5 Tryd.f5 (sentsBallotPlays.map (·.2.1)) := by
  intro H enc W base args ds p A hA hval hsz hlt hE
  rw [Tryd.params5] at hA hval hsz
  obtain ⟨v0, vs0, d0, ds0, p0, q0, hargs, rfl, rfl, h0, r0⟩ := trodAll_cons hA
  obtain ⟨v1, vs1, d1, ds1, p1, q1, hargs1, rfl, rfl, h1, r1⟩ := trodAll_cons r0
  obtain ⟨rfl, rfl, rfl⟩ := trodAll_nil r1
  obtain rfl : args = #[v0, v1] := by cases args; simp_all
  have hl1 : Light 54 d1 := light_of_each (j := 1) hsz rfl rfl
  obtain ⟨cs, rfl, _⟩ := okWide_array Tryd.underlying53 (hval 0 53 v0 rfl rfl)
  have c1 := arg_slice' Tryd.underlying54 (hval 1 54 v1 rfl rfl)
  obtain ⟨f0, h0⟩ := h0
  obtain ⟨f1, h1⟩ := h1
  rw [c1] at h1
  obtain ⟨xs, m, _, _, hlen, _, hall⟩ := DataW.trod_array Tryd.underlying53 h0
  rw [cellsOf53] at hlen
  have e : (Value.agg cs).cells.toList = cs.toList := rfl
  rw [e] at hlen hall
  obtain ⟨a, b, c, hcs⟩ := list3 hlen
  rw [hcs] at hall
  have get : ∀ i, i < 3 → ∃ n, ([a, b, c].drop i).take 1 = [.int .i64 n] := fun i hi => by
    have h := hall i hi
    rw [cellsOf3, Nat.mul_one] at h
    have hx : i < xs.length := by
      cases hxi : xs[i]? with
      | none => rw [hxi] at h; exact absurd h (by
          intro h
          have : xs.length = 3 := by assumption
          rw [List.getElem?_eq_none_iff] at hxi
          omega)
      | some y => exact (List.getElem?_eq_some_iff.1 hxi).1
    rw [List.getElem?_eq_getElem hx] at h
    obtain ⟨n, hn, _⟩ := trod_i64 h
    exact ⟨n, hn⟩
  obtain ⟨n0, e0⟩ := get 0 (by omega)
  obtain ⟨n1, e1⟩ := get 1 (by omega)
  obtain ⟨n2, e2⟩ := get 2 (by omega)
  simp at e0 e1 e2
  have hcs' : cs = #[.int .i64 n0, .int .i64 n1, .int .i64 n2] := by
    rw [← Array.toArray_toList (xs := cs), hcs, e0, e1, e2]
  subst hcs'
  obtain ⟨v, os, e1, hS⟩ := open_script h1 hl1
  injection e1 with e1 _
  subst e1
  have hG : sentsBallotPlays.map (·.2.1) = G18 := rfl
  rw [hG] at hE
  exact plays_any (fun j => if j = 0 then n0 else if j = 1 then n1 else n2) v1 os W A hE hS

end Go.Proofs.YtnlncfjibbdimaaDoor
