/-
  BallotNumbers: the walk.
-/
import Derived.Test.YtnlncfjibbdimaaDoorAlive9
import Derived.Deep.DeepCutAuto
import Derived.Lib.QuietBelow
namespace Go.Proofs.YtnlncfjibbdimaaDoor
open Go.RowKit
set_option linter.unusedSimpArgs false
set_option linter.unusedVariables false

theorem ab_self (r n : Int) : ab r n r n = false := by simp [ab]

theorem ab_ne {r1 n1 r2 n2 : Int} (h : ¬ (r1 = r2 ∧ n1 = n2)) : (ab r1 n1 r2 n2 == ab r2 n2 r1 n1) = false := by
  rw [beq_eq_false_iff_ne]
  intro he
  rw [Bool.eq_iff_iff] at he
  simp only [ab, Bool.or_eq_true, Bool.and_eq_true, decide_eq_true_eq] at he
  omega
theorem ab_trans {r1 n1 r2 n2 r3 n3 : Int} (h : ab r1 n1 r2 n2 = true) (h' : ab r2 n2 r3 n3 = true) : ab r1 n1 r3 n3 = true := by
  simp only [ab, Bool.or_eq_true, Bool.and_eq_true, decide_eq_true_eq] at *
  omega
theorem half_more (N : Int) : (N < 1 → half N = 0) ∧ (1 ≤ N → 1 ≤ half N ∧ half N ≤ N ∧ half N > N - half N ∧ half N - 1 ≤ N - (half N - 1)) := by
  unfold half
  constructor
  · intro h; rw [if_pos h]
  · intro h; rw [if_neg (by omega)]; omega

def NumMid (w : World) (r1 n1 r2 n2 r3 n3 N : Int) (s3 s4 s5 s6 : Value) (wx : World) : Prop :=
  ∃ ga gb gc, s3 = .pointer (some ⟨ga, 0, none⟩) ∧ s4 = .pointer (some ⟨gb, 0, none⟩) ∧ s5 = .pointer (some ⟨gc, 0, none⟩) ∧ s6 = .int .i64 N ∧
    Blk wx ga 23 #[.int .i64 r1, .int .i64 n1] ∧ Blk wx gb 23 #[.int .i64 r2, .int .i64 n2] ∧ Blk wx gc 23 #[.int .i64 r3, .int .i64 n3] ∧ Below w.heap.size w wx
theorem blk3_1 (w : World) (o B C : Obj) (cs : Array Value) : Blk ((((w.alloc o).alloc (.cells cs 23)).alloc B).alloc C).drew (w.heap.size + 1) 23 cs := (((Blk.new1 w o 23 cs).alloc B).alloc C).drew
theorem blk3_2 (w : World) (o A C : Obj) (cs : Array Value) : Blk ((((w.alloc o).alloc A).alloc (.cells cs 23)).alloc C).drew (w.heap.size + 1 + 1) 23 cs := by
  have := ((Blk.new1 (w.alloc o) A 23 cs).alloc C).drew
  simpa using this
theorem blk3_3 (w : World) (o A B : Obj) (cs : Array Value) : Blk ((((w.alloc o).alloc A).alloc B).alloc (.cells cs 23)).drew (w.heap.size + 1 + 1 + 1) 23 cs := by
  have := (Blk.new1 ((w.alloc o).alloc A) B 23 cs).drew
  simpa using this
theorem below4 (w : World) (o A B C : Obj) : Below w.heap.size w ((((w.alloc o).alloc A).alloc B).alloc C).drew :=
  (((((Below.refl _ _).alloc (Nat.le_refl _) o).alloc (by simp) A).alloc (by simp; omega) B).alloc (by simp; omega) C).drew

def SayFalse (w wx : World) (s : Value) (w' : World) : Prop := s = .bool false ∧ Below wx.heap.size wx w'

set_option maxRecDepth 100000 in
set_option maxHeartbeats 1600000 in
theorem numbers_any (r1 n1 r2 n2 r3 n3 N : Int) (hNN : N ≤ 9223372036854775807) (w : World) (a3 : Addr) (h3 : w.cell? ⟨3, 0, none⟩ = some (errv a3)) :
    Calls Tryd.prog 3 #[.agg #[.int .i64 r1, .int .i64 n1, .int .i64 r2, .int .i64 n2, .int .i64 r3, .int .i64 n3, .int .i64 N]] w fun e w' => e = .returned (.bool true) ∧ Below w.heap.size w w' := by
  have h00 := World.block_lt_of_cell? w _ h3
  simp only at h00
  go_enter Tryd.func3, Tryd.ntmps3
  go_upto_region 1 with fail
  go_cut [3, 4, 5, 6] (fun s3 s4 s5 s6 wx => NumMid w r1 n1 r2 n2 r3 n3 N s3 s4 s5 s6 wx)
  case first =>
    go_region_held3 (fun w' => w'.cell? ⟨w.heap.size, 0, none⟩ = some (.int .i64 r1) ∧ w'.cell? ⟨w.heap.size, 1, none⟩ = some (.int .i64 n1) ∧ w'.cell? ⟨w.heap.size, 2, none⟩ = some (.int .i64 r2) ∧ w'.cell? ⟨w.heap.size, 3, none⟩ = some (.int .i64 n2) ∧ w'.cell? ⟨w.heap.size, 4, none⟩ = some (.int .i64 r3) ∧ w'.cell? ⟨w.heap.size, 5, none⟩ = some (.int .i64 n3) ∧ w'.cell? ⟨w.heap.size, 6, none⟩ = some (.int .i64 N)) (go_keep) (fail)
    all_goals
      go_wp2_with fail
      go_meet
      refine ⟨_, _, _, rfl, rfl, rfl, rfl, ?_, ?_, ?_, below4 _ _ _ _ _⟩
    all_goals first | exact blk3_1 _ _ _ _ _ | exact blk3_2 _ _ _ _ _ | exact blk3_3 _ _ _ _ _
  case rest =>
    obtain ⟨ga, gb, gc, rfl, rfl, rfl, rfl, hA, hB, hC, hb⟩ := hcut
    go_wp2_with (fail)
    refine (alive9_any _ a3 ((hb.cell h00).trans h3)).mono ?_
    rintro e w2 ⟨rfl, hb2⟩
    have hA2 := hA.below hb2 hA.lt
    have hB2 := hB.below hb2 hB.lt
    have hC2 := hC.below hb2 hC.lt
    have hbb := hb.trans (hb2.mono hb.size)
    clear hA hB hC hb hb2
    have haa := ab_self r1 n1
    have kA : ∀ d os i, (Go.Sort.grow (redrawn w2 d) os).cell? ⟨ga, i, none⟩ = (#[.int .i64 r1, .int .i64 n1] : Array Value)[i]? := fun d os => (hA2.below (below_regrown w2 d os) hA2.lt).cell
    have kB : ∀ d os i, (Go.Sort.grow (redrawn w2 d) os).cell? ⟨gb, i, none⟩ = (#[.int .i64 r2, .int .i64 n2] : Array Value)[i]? := fun d os => (hB2.below (below_regrown w2 d os) hB2.lt).cell
    go_upto_region 4 with fail
    go_cut [43] (fun s wx => SayFalse w w2 s wx)
    case first =>
      by_cases he : r1 = r2 ∧ n1 = n2
      · obtain ⟨rfl, rfl⟩ := he
        refine wp_region_quiet_below (by kernel_rfl) (by kernel_rfl) ?_
        repeat (go_big_quiet_step (first | exact Calls.regrown_of (above_any _ _ _ _ _) | exact Calls.regrown_of (rabove_any _ _ _ _ _)))
        refine wpQuiet_nil ?_
        intro _ hw'
        obtain ⟨⟨dq, osq⟩, hw''⟩ := hw'
        subst hw''
        go_wp2_with fail
        go_meet
        exact ⟨rfl, below_regrown _ _ _⟩
      · have hxy : (ab r1 n1 r2 n2 == ab r2 n2 r1 n1) = false := ab_ne he
        by_cases hr : r1 = r2
        · subst hr
          have hn : ¬ n1 = n2 := fun h => he ⟨rfl, h⟩
          clear he
          refine wp_region_quiet_below (by kernel_rfl) (by kernel_rfl) ?_
          repeat (go_big_quiet_step (first | exact Calls.regrown_of (above_any _ _ _ _ _) | exact Calls.regrown_of (rabove_any _ _ _ _ _)))
          refine wpQuiet_nil ?_
          intro _ hw'
          obtain ⟨⟨dq, osq⟩, hw''⟩ := hw'
          subst hw''
          go_wp2_with fail
          go_meet
          exact ⟨rfl, below_regrown _ _ _⟩
        · clear he
          refine wp_region_quiet_below (by kernel_rfl) (by kernel_rfl) ?_
          repeat (go_big_quiet_step (first | exact Calls.regrown_of (above_any _ _ _ _ _) | exact Calls.regrown_of (rabove_any _ _ _ _ _)))
          refine wpQuiet_nil ?_
          intro _ hw'
          obtain ⟨⟨dq, osq⟩, hw''⟩ := hw'
          subst hw''
          go_wp2_with fail
          go_meet
          exact ⟨rfl, below_regrown _ _ _⟩
    case rest =>
      obtain ⟨rfl, hb3⟩ := hcut
      have hA3 := hA2.below hb3 hA2.lt
      have hB3 := hB2.below hb3 hB2.lt
      have hC3 := hC2.below hb3 hC2.lt
      have hb4 := hbb.trans (hb3.mono hbb.size)
      clear hA2 hB2 hC2 hb3 hbb kA kB haa
      have lA := hA3.lt
      have lB := hB3.lt
      have lC := hC3.lt
      have cA := hA3.cell
      have cB := hB3.cell
      have cC := hC3.cell
      clear hA3 hB3 hC3
      have hh := half_more N
      have HB := Lib.hid hb4
      have hs := hb4.size
      clear hb4
      by_cases hN1 : N < 1
      · have hh1 := hh.1 hN1
        clear hh
        cases h12 : ab r1 n1 r2 n2 with
        | false =>
          go_wp2_with (first
            | (go_at_call 23; refine (above_any _ _ _ _ _).mono ?_; rintro e wN ⟨rfl, hN⟩; have cA := fun i => (hN.cell (p := ⟨ga, i, none⟩) lA).trans (cA i); have cB := fun i => (hN.cell (p := ⟨gb, i, none⟩) lB).trans (cB i); have cC := fun i => (hN.cell (p := ⟨gc, i, none⟩) lC).trans (cC i); have lA := Nat.lt_of_lt_of_le lA hN.size; have lB := Nat.lt_of_lt_of_le lB hN.size; have lC := Nat.lt_of_lt_of_le lC hN.size; have HB := Lib.hid (HB.out.trans (hN.mono hs)); have hs := Nat.le_trans hs hN.size; clear hN)
            | (go_at_call 25; refine (half_any _ hNN _).mono ?_; rintro e wN ⟨rfl, rfl⟩))
          go_ret
          exact ⟨ret_bool (by simp), HB.out⟩
        | true =>
          cases h23 : ab r2 n2 r3 n3 with
          | false =>
            go_wp2_with (first
              | (go_at_call 23; refine (above_any _ _ _ _ _).mono ?_; rintro e wN ⟨rfl, hN⟩; have cA := fun i => (hN.cell (p := ⟨ga, i, none⟩) lA).trans (cA i); have cB := fun i => (hN.cell (p := ⟨gb, i, none⟩) lB).trans (cB i); have cC := fun i => (hN.cell (p := ⟨gc, i, none⟩) lC).trans (cC i); have lA := Nat.lt_of_lt_of_le lA hN.size; have lB := Nat.lt_of_lt_of_le lB hN.size; have lC := Nat.lt_of_lt_of_le lC hN.size; have HB := Lib.hid (HB.out.trans (hN.mono hs)); have hs := Nat.le_trans hs hN.size; clear hN)
              | (go_at_call 25; refine (half_any _ hNN _).mono ?_; rintro e wN ⟨rfl, rfl⟩))
            go_ret
            exact ⟨ret_bool (by simp), HB.out⟩
          | true =>
            have h13 := ab_trans h12 h23
            go_wp2_with (first
              | (go_at_call 23; refine (above_any _ _ _ _ _).mono ?_; rintro e wN ⟨rfl, hN⟩; have cA := fun i => (hN.cell (p := ⟨ga, i, none⟩) lA).trans (cA i); have cB := fun i => (hN.cell (p := ⟨gb, i, none⟩) lB).trans (cB i); have cC := fun i => (hN.cell (p := ⟨gc, i, none⟩) lC).trans (cC i); have lA := Nat.lt_of_lt_of_le lA hN.size; have lB := Nat.lt_of_lt_of_le lB hN.size; have lC := Nat.lt_of_lt_of_le lC hN.size; have HB := Lib.hid (HB.out.trans (hN.mono hs)); have hs := Nat.le_trans hs hN.size; clear hN)
              | (go_at_call 25; refine (half_any _ hNN _).mono ?_; rintro e wN ⟨rfl, rfl⟩))
            go_ret
            exact ⟨ret_bool (by simp), HB.out⟩
      · obtain ⟨g1, g2, g3, g4⟩ := hh.2 (by omega)
        clear hh
        cases h12 : ab r1 n1 r2 n2 with
        | false =>
          go_wp2_with (first
            | (go_at_call 23; refine (above_any _ _ _ _ _).mono ?_; rintro e wN ⟨rfl, hN⟩; have cA := fun i => (hN.cell (p := ⟨ga, i, none⟩) lA).trans (cA i); have cB := fun i => (hN.cell (p := ⟨gb, i, none⟩) lB).trans (cB i); have cC := fun i => (hN.cell (p := ⟨gc, i, none⟩) lC).trans (cC i); have lA := Nat.lt_of_lt_of_le lA hN.size; have lB := Nat.lt_of_lt_of_le lB hN.size; have lC := Nat.lt_of_lt_of_le lC hN.size; have HB := Lib.hid (HB.out.trans (hN.mono hs)); have hs := Nat.le_trans hs hN.size; clear hN)
            | (go_at_call 25; refine (half_any _ hNN _).mono ?_; rintro e wN ⟨rfl, rfl⟩))
          go_ret
          exact ⟨ret_bool (by simp), HB.out⟩
        | true =>
          cases h23 : ab r2 n2 r3 n3 with
          | false =>
            go_wp2_with (first
              | (go_at_call 23; refine (above_any _ _ _ _ _).mono ?_; rintro e wN ⟨rfl, hN⟩; have cA := fun i => (hN.cell (p := ⟨ga, i, none⟩) lA).trans (cA i); have cB := fun i => (hN.cell (p := ⟨gb, i, none⟩) lB).trans (cB i); have cC := fun i => (hN.cell (p := ⟨gc, i, none⟩) lC).trans (cC i); have lA := Nat.lt_of_lt_of_le lA hN.size; have lB := Nat.lt_of_lt_of_le lB hN.size; have lC := Nat.lt_of_lt_of_le lC hN.size; have HB := Lib.hid (HB.out.trans (hN.mono hs)); have hs := Nat.le_trans hs hN.size; clear hN)
              | (go_at_call 25; refine (half_any _ hNN _).mono ?_; rintro e wN ⟨rfl, rfl⟩))
            go_ret
            exact ⟨ret_bool (by simp), HB.out⟩
          | true =>
            have h13 := ab_trans h12 h23
            go_wp2_with (first
              | (go_at_call 23; refine (above_any _ _ _ _ _).mono ?_; rintro e wN ⟨rfl, hN⟩; have cA := fun i => (hN.cell (p := ⟨ga, i, none⟩) lA).trans (cA i); have cB := fun i => (hN.cell (p := ⟨gb, i, none⟩) lB).trans (cB i); have cC := fun i => (hN.cell (p := ⟨gc, i, none⟩) lC).trans (cC i); have lA := Nat.lt_of_lt_of_le lA hN.size; have lB := Nat.lt_of_lt_of_le lB hN.size; have lC := Nat.lt_of_lt_of_le lC hN.size; have HB := Lib.hid (HB.out.trans (hN.mono hs)); have hs := Nat.le_trans hs hN.size; clear hN)
              | (go_at_call 25; refine (half_any _ hNN _).mono ?_; rintro e wN ⟨rfl, rfl⟩))
            go_ret
            exact ⟨ret_bool (by simp), HB.out⟩

end Go.Proofs.YtnlncfjibbdimaaDoor
