/-
  CommandNames: the walk, and off the row's reading of its arguments.
-/
import Derived.Test.YtnlncfjibbdimaaDoorAlive10
import Derived.Test.YtnlncfjibbdimaaDoorArgs
namespace Go.Proofs.YtnlncfjibbdimaaDoor
open Go.ChangeShapes Go.WideShapes Go.ChangeAt Go.RowKit
set_option linter.unusedSimpArgs false
set_option linter.unusedVariables false

set_option maxRecDepth 100000 in
set_option maxHeartbeats 1600000 in
theorem names_any (s : ByteArray) (hs : s.size ≤ maxLen) (a b c : Int) (w : World) : Calls Tryd.prog 7 #[.string s, .agg #[.int .i64 a, .int .i64 b, .int .i64 c]] w fun e w' => e = .returned (.bool true) ∧ Below w.heap.size w w' := by
  have k36 := fun w => goodBucket_any s hs w
  have k37 : ∀ w, Calls Tryd.prog 37 #[.string s] w fun e w' => e = .returned (.bool (gbC s)) ∧ Below w.heap.size w w' := fun w => (rgoodBucket_any s hs w).mono fun e w' ⟨h1, h2⟩ => ⟨by rw [h1, gb_same], by rw [h2]; exact Below.refl _ _⟩
  have k38 : ∀ w, Calls Tryd.prog 38 #[.string s] w fun e w' => e = .returned (.bool (gk s)) ∧ Below w.heap.size w w' := fun w => (goodKey_any s hs w).mono fun e w' ⟨h1, h2⟩ => ⟨h1, by rw [h2]; exact Below.refl _ _⟩
  have k39 : ∀ w, Calls Tryd.prog 39 #[.string s] w fun e w' => e = .returned (.bool (gk s)) ∧ Below w.heap.size w w' := fun w => (rgoodKey_any s hs w).mono fun e w' ⟨h1, h2⟩ => ⟨h1, by rw [h2]; exact Below.refl _ _⟩
  have k40 := fun w => goodId_any a b c w
  have k41 := fun w => rgoodId_any a b c w
  unfold IdPost at k40 k41
  obtain ⟨x1, h1⟩ : ∃ x, x = gbC s := ⟨_, rfl⟩
  obtain ⟨x2, h2⟩ : ∃ x, x = gk s := ⟨_, rfl⟩
  obtain ⟨x3, h3⟩ : ∃ x, x = gid a b c := ⟨_, rfl⟩
  rw [← h1] at k36 k37
  rw [← h2] at k38 k39
  rw [← h3] at k40 k41
  clear h1 h2 h3 hs
  go_enter Tryd.func7, Tryd.ntmps7
  go_upto_region 3 with (first
    | (go_at_call 35; refine (alive10_any _).mono ?_; rintro e w1 ⟨rfl, b1⟩)
    | fail)
  have hX := (Blk.new w 74 #[.int .i64 a, .int .i64 b, .int .i64 c]).below b1 (by simp)
  have hb : Below w.heap.size w w1 := ((Below.refl w.heap.size w).alloc (Nat.le_refl _) _).trans (b1.mono (by simp))
  obtain ⟨x, hx⟩ : ∃ x, x = w.heap.size := ⟨_, rfl⟩
  rw [← hx] at hX ⊢
  clear b1
  have HB := Lib.hid (And.intro hb hx)
  clear hb hx
  have cX : ∀ d os i, (Go.Sort.grow (redrawn w1 d) os).cell? ⟨x, i, none⟩ = (#[.int .i64 a, .int .i64 b, .int .i64 c] : Array Value)[i]? := fun d os => (hX.below (below_regrown w1 d os) hX.lt).cell
  refine wp_region_quiet_below (by kernel_rfl) (by kernel_rfl) ?_
  repeat (go_big_quiet_step (first | exact Calls.regrown_of (k36 _) | exact Calls.regrown_of (k37 _) | exact Calls.regrown_of (k38 _) | exact Calls.regrown_of (k39 _) | exact Calls.regrown_of (k40 _) | exact Calls.regrown_of (k41 _)))
  refine wpQuiet_nil ?_
  intro _ hw'
  obtain ⟨⟨dq, osq⟩, hw''⟩ := hw'
  subst hw''
  go_wp2_with (fail)
  go_ret
  refine ⟨rfl, ?_⟩
  have h := HB.out.1
  rw [← HB.out.2] at h ⊢
  exact h.trans ((below_regrown w1 dq osq).mono (by have := hX.lt; omega))

def sentsCommandNames : List (String × Nat × List UInt8) := [("bollard/api.ErrNumber", 0, [98, 111, 108, 108, 97, 114, 100, 58, 32, 110, 117, 109, 98, 101, 114]), ("bollard/api.ErrState", 1, [98, 111, 108, 108, 97, 114, 100, 58, 32, 115, 116, 97, 116, 101])]
theorem sentsCommandNames_ok : ∀ x ∈ sentsCommandNames, SentOk x := by
  intro x hx
  simp only [sentsCommandNames, List.mem_cons, List.not_mem_nil, or_false] at hx
  rcases hx with rfl | rfl
  · exact ⟨by kernel_rfl, by kernel_rfl⟩
  · exact ⟨by kernel_rfl, by kernel_rfl⟩

set_option maxRecDepth 100000 in
theorem commandNames_walk : LawWalk 7 Tryd.f7 (sentsCommandNames.map (·.2.1)) := by
  intro H enc W base args ds p A hA hval hsz hlt hE
  rw [Tryd.params7] at hA hval hsz
  obtain ⟨v0, vs0, d0, ds0, p0, q0, hargs, rfl, rfl, h0, r0⟩ := trodAll_cons hA
  obtain ⟨v1, vs1, d1, ds1, p1, q1, hargs1, rfl, rfl, h1, r1⟩ := trodAll_cons r0
  obtain ⟨rfl, rfl, rfl⟩ := trodAll_nil r1
  obtain rfl : args = #[v0, v1] := by cases args; simp_all
  have c0 := arg_string' Tryd.underlying9 (hval 0 9 v0 rfl rfl)
  obtain ⟨cs, rfl, _⟩ := okWide_struct Tryd.underlying74 (hval 1 74 v1 rfl rfl)
  obtain ⟨f0, h0⟩ := h0
  obtain ⟨f1, h1⟩ := h1
  rw [c0] at h0
  obtain ⟨s, e0, hs⟩ := trod_str h0
  injection e0 with e0 _
  subst e0
  obtain ⟨a, b, c, hcs, _⟩ := trod_id h1
  have hc : cs = #[.int .i64 a, .int .i64 b, .int .i64 c] := by
    have e : (Value.agg cs).cells.toList = cs.toList := rfl
    rw [e] at hcs
    rw [← Array.toArray_toList (xs := cs), hcs]
  subst hc
  exact names_any s hs a b c W

end Go.Proofs.YtnlncfjibbdimaaDoor
