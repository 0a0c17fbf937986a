/-
  A round's hear: does an answer belong to this stage and ballot, and is it new?
-/
import Derived.Test.YtnlncfjibbdimaaDoorRnd13
import Derived.Test.YtnlncfjibbdimaaDoorLex
namespace Go.Proofs.YtnlncfjibbdimaaDoor
open Go.RowKit
set_option linter.unusedSimpArgs false
set_option linter.unusedVariables false

theorem sth23 : Tryd.prog.stoodInHeld 23 = false := by kernel_rfl
theorem fbh23 : Tryd.prog.underlying 23 = some (.struct (Tryd.prog.fieldsOf 23)) := by unfold Program.fieldsOf; rw [Tryd.underlying23]
theorem neqb23 (a b a' b' : Int) (w : World) : (binOp .neq 23 (.agg #[.int .i64 a, .int .i64 b]) (.agg #[.int .i64 a', .int .i64 b'])).run Tryd.prog w = .ok (.bool (!(decide (a = a') && decide (b = b')))) w := by
  rw [run_neq_struct, show 10000 = 9999 + 1 from rfl, run_equalIn_struct w 9999 23 _ _ fbh23 sth23]
  simp only [Program.fieldsOf, Tryd.underlying23]
  simp [Op.eqFields, go_sem, part]
  by_cases h1 : a = a' <;> by_cases h2 : b = b' <;> simp [h1, h2]

theorem RndAt.set {w : World} {B g ga n : Nat} {f : Nat → Bool} {r : Rnd} {pv lv : Value} (h : RndAt w B g ga n f r pv lv) (j : Nat) : RndAt (w.setCell ⟨ga, j, none⟩ (.bool true)) B g ga n (upd f j true) r pv lv ∧ Fr w.heap.size (fun k => k = ga) w (w.setCell ⟨ga, j, none⟩ (.bool true)) := by
  have hF : Fr w.heap.size (fun k => k = ga) w (w.setCell ⟨ga, j, none⟩ (.bool true)) := (Fr.refl w.heap.size (fun k => k = ga) w).setCell (p := ⟨ga, j, none⟩) (.inl rfl) _
  have h1 := h.hga
  have h2 := h.hg
  have h3 := h.hB
  refine ⟨⟨h.hg, h.hga, h.ne, Nat.le_trans h.hB hF.size, h.row.far (p := ⟨ga, j, none⟩) h.ne _, ?_, ?_, (h.led.fr hF (Nat.le_refl _) (fun k q1 _ he => by omega)).wider (Nat.le_refl _) hF.size, h.sz⟩, hF⟩
  · have := h.ans.set_ j (.bool true)
    rwa [bls_set] at this
  · obtain ⟨p0, q1, q2, q3⟩ := h.parts
    exact ⟨p0, q1, q2, q3.fr hF (by omega) (fun k _ hk he => by omega)⟩

/-- Does an answer count? -/
def fitsR (r : Rnd) (n : Nat) (f : Nat → Bool) (stage from_ br bn : Int) : Prop := r.stage = stage ∧ (br = r.br ∧ bn = r.bn) ∧ ∃ j : Nat, from_ = j ∧ j < n ∧ f j = false
/-- What hear answers. -/
def HearPost (B g ga n : Nat) (f : Nat → Bool) (r : Rnd) (pv lv : Value) (stage from_ br bn : Int) (w : World) (e : Ending) (w' : World) : Prop :=
  (¬ fitsR r n f stage from_ br bn ∧ e = .returned (.bool false) ∧ Below w.heap.size w w') ∨
  (r.stage = stage ∧ (br = r.br ∧ bn = r.bn) ∧ ∃ j : Nat, from_ = j ∧ j < n ∧ f j = false ∧ e = .returned (.bool true) ∧ RndAt w' B g ga n (upd f j true) r pv lv ∧ Fr w.heap.size (fun k => k = ga) w w')

set_option maxRecDepth 100000 in
set_option maxHeartbeats 6400000 in
theorem hear_any (w : World) (B g ga n : Nat) (f : Nat → Bool) (r : Rnd) (pv lv : Value) (h : RndAt w B g ga n f r pv lv) (stage from_ br bn : Int) :
    Calls Tryd.prog 117 #[.pointer (some ⟨g, 0, none⟩), .int .i64 stage, .int .i64 from_, .agg #[.int .i64 br, .int .i64 bn]] w (HearPost B g ga n f r pv lv stage from_ br bn w) := by
  have hq := neqb23 br bn r.br r.bn
  have hn := h.sz
  have bA : Below w.heap.size w (w.alloc (.cells #[.int .i64 br, .int .i64 bn] 23)) := (Below.refl _ _).alloc (Nat.le_refl _) _
  have H := Lib.hid h
  go_enter Tryd.func117, Tryd.ntmps117
  go_upto_region 1 with (fail)
  refine wp_letter (fun W => Below w.heap.size w W ∧ Blk W w.heap.size 23 #[.int .i64 br, .int .i64 bn]) ⟨bA, Blk.new w 23 _⟩ ?_
  clear bA
  rintro W ⟨hb, hX⟩
  obtain ⟨x, hx⟩ : ∃ x, x = w.heap.size := ⟨_, rfl⟩
  rw [← hx] at hX ⊢
  have hR := h.below hb (Nat.le_refl _)
  have hbr : ∀ d os, Below W.heap.size W (Go.Sort.grow (redrawn W d) os) := fun d os => below_regrown W d os
  have cX : ∀ d os i, (Go.Sort.grow (redrawn W d) os).cell? ⟨x, i, none⟩ = (#[.int .i64 br, .int .i64 bn] : Array Value)[i]? := fun d os => (hX.below (hbr d os) hX.lt).cell
  have c0 : ∀ d os, (Go.Sort.grow (redrawn W d) os).cell? ⟨g, 0, none⟩ = some (.slice (some ⟨ga, 0, none⟩) n n) := fun d os => (hR.below (hbr d os) (Nat.le_refl _)).row.cell 0
  have c20 : ∀ d os, (Go.Sort.grow (redrawn W d) os).cell? ⟨g, 20, none⟩ = some (.int .i64 r.br) := fun d os => (hR.below (hbr d os) (Nat.le_refl _)).row.cell 20
  have c21 : ∀ d os, (Go.Sort.grow (redrawn W d) os).cell? ⟨g, 21, none⟩ = some (.int .i64 r.bn) := fun d os => (hR.below (hbr d os) (Nat.le_refl _)).row.cell 21
  have c22 : ∀ d os, (Go.Sort.grow (redrawn W d) os).cell? ⟨g, 22, none⟩ = some (.int .i64 r.stage) := fun d os => (hR.below (hbr d os) (Nat.le_refl _)).row.cell 22
  have cA : ∀ d os k, k < n → (Go.Sort.grow (redrawn W d) os).cell? ⟨ga, k, none⟩ = some (.bool (f k)) := fun d os k hk => by rw [(hR.below (hbr d os) (Nat.le_refl _)).ans.cell k, bls_get hk]
  have HB := Lib.hid (And.intro hb (And.intro hR (And.intro hX hx)))
  have HC := Lib.hid cA
  clear h hb hR hX hbr cA hx
  by_cases hs : r.stage = stage
  · have hsb : (r.stage != stage) = false := by simp [hs]
    by_cases he : br = r.br ∧ bn = r.bn
    · have hq' : ∀ w, (binOp .neq 23 (.agg #[.int .i64 br, .int .i64 bn]) (.agg #[.int .i64 r.br, .int .i64 r.bn])).run Tryd.prog w = .ok (.bool false) w := fun w => by rw [hq w]; simp [he.1, he.2]
      clear hq
      by_cases h0 : from_ < 0
      · have HNO := Lib.hid (show ¬ fitsR r n f stage from_ br bn from fun hf => by obtain ⟨_, _, j, hj, _⟩ := hf; omega)
        have HS := Lib.hid (And.intro hs he)
        clear hs he
        try simp only [List.cons_append, List.nil_append, List.append_eq]
        refine wp_region_quiet_cheap (by kernel_rfl) (by kernel_rfl) (by kernel_rfl) (by kernel_rfl) ?_
        repeat (go_big_quiet_step (fail))
        refine wpQuiet_nil ?_
        intro _ hw'
        obtain ⟨⟨dq, osq⟩, hw''⟩ := hw'
        subst hw''
        go_wp2_with (fail)
        go_ret
        exact .inl ⟨HNO.out, rfl, HB.out.1.trans ((below_regrown W dq osq).mono HB.out.1.size)⟩
      · by_cases h1 : from_ ≥ n
        · have HNO := Lib.hid (show ¬ fitsR r n f stage from_ br bn from fun hf => by obtain ⟨_, _, j, hj, hjn, _⟩ := hf; omega)
          have HS := Lib.hid (And.intro hs he)
          clear hs he
          try simp only [List.cons_append, List.nil_append, List.append_eq]
          refine wp_region_quiet_cheap (by kernel_rfl) (by kernel_rfl) (by kernel_rfl) (by kernel_rfl) ?_
          repeat (go_big_quiet_step (fail))
          refine wpQuiet_nil ?_
          intro _ hw'
          obtain ⟨⟨dq, osq⟩, hw''⟩ := hw'
          subst hw''
          go_wp2_with (fail)
          go_ret
          exact .inl ⟨HNO.out, rfl, HB.out.1.trans ((below_regrown W dq osq).mono HB.out.1.size)⟩
        · obtain ⟨j, rfl⟩ : ∃ j : Nat, from_ = j := ⟨from_.toNat, by omega⟩
          have hjn : j < n := by omega
          have cj := fun d os => HC.out d os j hjn
          have hj1 : (j : Int) < n := by omega
          cases hf : f j with
          | true =>
            simp only [hf] at cj
            have HNO := Lib.hid (show ¬ fitsR r n f stage j br bn from fun hh => by obtain ⟨_, _, j', hj', _, hf'⟩ := hh; obtain rfl : j = j' := (by omega); rw [hf] at hf'; cases hf')
            have HS := Lib.hid (And.intro hs he)
            clear hs he hf
            try simp only [List.cons_append, List.nil_append, List.append_eq]
            refine wp_region_quiet_cheap (by kernel_rfl) (by kernel_rfl) (by kernel_rfl) (by kernel_rfl) ?_
            repeat (go_big_quiet_step (fail))
            refine wpQuiet_nil ?_
            intro _ hw'
            obtain ⟨⟨dq, osq⟩, hw''⟩ := hw'
            subst hw''
            go_wp2_with (fail)
            go_ret
            exact .inl ⟨HNO.out, rfl, HB.out.1.trans ((below_regrown W dq osq).mono HB.out.1.size)⟩
          | false =>
            simp only [hf] at cj
            have HS := Lib.hid (And.intro hs (And.intro he hf))
            have fz : ∀ d os, (Go.Sort.grow (redrawn W d) os).frozen? ⟨ga, j, none⟩ = false := fun d os => (HB.out.2.1.below (below_regrown W d os) (Nat.le_refl _)).ans.frozen j
            clear hs he hf
            try simp only [List.cons_append, List.nil_append, List.append_eq]
            refine wp_region_quiet_cheap (by kernel_rfl) (by kernel_rfl) (by kernel_rfl) (by kernel_rfl) ?_
            repeat (go_big_quiet_step (fail))
            refine wpQuiet_nil ?_
            intro _ hw'
            obtain ⟨⟨dq, osq⟩, hw''⟩ := hw'
            subst hw''
            have hset := (HB.out.2.1.below (below_regrown W dq osq) (Nat.le_refl _)).set j
            have hbq := HB.out.1.trans ((below_regrown W dq osq).mono HB.out.1.size)
            have HSET := Lib.hid (And.intro hset.1 (And.intro hset.2 hbq))
            clear hset hbq
            go_wp2_with (fail)
            go_ret
            exact .inr ⟨HS.out.1, HS.out.2.1, j, rfl, hjn, HS.out.2.2, rfl, HSET.out.1, (Fr.of_below HSET.out.2.2 _).trans (HSET.out.2.1.mono HSET.out.2.2.size (fun _ _ h => h))⟩
    · have hq' : ∀ w, (binOp .neq 23 (.agg #[.int .i64 br, .int .i64 bn]) (.agg #[.int .i64 r.br, .int .i64 r.bn])).run Tryd.prog w = .ok (.bool true) w := fun w => by
        rw [hq w]
        by_cases h1 : br = r.br <;> by_cases h2 : bn = r.bn <;> simp_all
      clear hq
      have HNO := Lib.hid (show ¬ fitsR r n f stage from_ br bn from fun hf => he hf.2.1)
      have HS := Lib.hid (And.intro hs he)
      clear hs he
      try simp only [List.cons_append, List.nil_append, List.append_eq]
      refine wp_region_quiet_cheap (by kernel_rfl) (by kernel_rfl) (by kernel_rfl) (by kernel_rfl) ?_
      repeat (go_big_quiet_step (fail))
      refine wpQuiet_nil ?_
      intro _ hw'
      obtain ⟨⟨dq, osq⟩, hw''⟩ := hw'
      subst hw''
      go_wp2_with (fail)
      go_ret
      exact .inl ⟨HNO.out, rfl, HB.out.1.trans ((below_regrown W dq osq).mono HB.out.1.size)⟩
  · have hsb : (r.stage != stage) = true := by simp [hs]
    have HNO := Lib.hid (show ¬ fitsR r n f stage from_ br bn from fun hf => hs hf.1)
    have HS := Lib.hid hs
    clear hs hq
    try simp only [List.cons_append, List.nil_append, List.append_eq]
    refine wp_region_quiet_cheap (by kernel_rfl) (by kernel_rfl) (by kernel_rfl) (by kernel_rfl) ?_
    repeat (go_big_quiet_step (fail))
    refine wpQuiet_nil ?_
    intro _ hw'
    obtain ⟨⟨dq, osq⟩, hw''⟩ := hw'
    subst hw''
    go_wp2_with (fail)
    go_ret
    exact .inl ⟨HNO.out, rfl, HB.out.1.trans ((below_regrown W dq osq).mono HB.out.1.size)⟩
end Go.Proofs.YtnlncfjibbdimaaDoor
