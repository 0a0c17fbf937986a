/-
  BallotPlays: the walk.
-/
import Derived.Test.YtnlncfjibbdimaaDoorPlay2
import Derived.Test.YtnlncfjibbdimaaDoorRises9
namespace Go.Proofs.YtnlncfjibbdimaaDoor
open Go.RowKit
set_option linter.unusedSimpArgs false
set_option linter.unusedVariables false

/-- What the script's loop keeps: three acceptors and three of the document's. -/
structure PlaysAt (W : World) (B a5 a6 : Nat) (A : Nat → Addr) (ga gm : Nat → Nat) (wr : World) : Prop where
  b5 : ∀ j, j < 3 → wr.cell? ⟨a5, j, none⟩ = some (.pointer (some ⟨ga j, 0, none⟩))
  b6 : ∀ j, j < 3 → wr.cell? ⟨a6, j, none⟩ = some (.pointer (some ⟨gm j, 0, none⟩))
  both : ∀ j, j < 3 → ∃ s, Both wr B (ga j) (gm j) s
  errs : Errs wr W.heap.size A G18
  lea : ∀ j, j < 3 → W.heap.size ≤ ga j ∧ W.heap.size ≤ gm j
  inj : ∀ i j, i < 3 → j < 3 → i ≠ j → ga i ≠ ga j ∧ gm i ≠ gm j
  na : ∀ j, j < 3 → a5 ≠ ga j ∧ a5 ≠ gm j ∧ a6 ≠ ga j ∧ a6 ≠ gm j
  l5 : a5 < B
  l6 : a6 < B
  hB : B ≤ wr.heap.size
  bel : Below W.heap.size W wr

section
variable {W wr w' : World} {B B' a5 a6 : Nat} {A : Nat → Addr} {ga gm : Nat → Nat}
theorem PlaysAt.ne (h : PlaysAt W B a5 a6 A ga gm wr) {i j : Nat} (hi : i < 3) (hj : j < 3) : ga i ≠ gm j := by
  obtain ⟨s, hs⟩ := h.both i hi
  obtain ⟨t, ht⟩ := h.both j hj
  obtain ⟨_, _, v, hv, _⟩ := hs.a
  obtain ⟨_, _, u, hu, _⟩ := ht.m
  exact hv.ne_type hu (by decide)
theorem PlaysAt.sure (h : PlaysAt W B a5 a6 A ga gm wr) {j : Nat} (hj : j < 3) : Sure wr W.heap.size A (ga j) (gm j) := ⟨h.errs, (h.lea j hj).1, (h.lea j hj).2, h.ne hj hj⟩
theorem PlaysAt.step (h : PlaysAt W B a5 a6 A ga gm wr) {j : Nat} (hj : j < 3) (f : Fr wr.heap.size (fun k => k = ga j ∨ k = gm j) wr w') (hs : ∃ s', Both w' B (ga j) (gm j) s') : PlaysAt W B a5 a6 A ga gm w' := by
  have hn := h.na j hj
  have hl := h.lea j hj
  have hB := h.hB
  obtain ⟨s', hs'⟩ := hs
  have hgB : ga j < B := hs'.a.1
  have hmB : gm j < B := hs'.m.1
  have hbW := h.bel.size
  have fW : Fr W.heap.size (fun _ => False) wr w' := f.mono hbW (fun k h1 h2 => by omega)
  refine ⟨fun i hi => ?_, fun i hi => ?_, fun i hi => ?_, h.errs.fr fW (Nat.le_refl _) (fun _ _ h => h), h.lea, h.inj, h.na, h.l5, h.l6, Nat.le_trans hB f.size, h.bel.trans (fW.below (fun _ _ h => h))⟩
  · exact (f.cell (p := ⟨a5, i, none⟩) (by have := h.l5; simp; omega) (by simp; omega)).trans (h.b5 i hi)
  · exact (f.cell (p := ⟨a6, i, none⟩) (by have := h.l6; simp; omega) (by simp; omega)).trans (h.b6 i hi)
  · by_cases e : i = j
    · subst e; exact ⟨s', hs'⟩
    · obtain ⟨s, hs⟩ := h.both i hi
      have h1 := h.inj i j hi hj e
      have h2 := h.ne hi hj
      have h3 := h.ne hj hi
      exact ⟨s, hs.a.fr f (Nat.le_refl _) (by omega) (fun k _ _ => by omega), hs.m.fr f (Nat.le_refl _) (by omega) (fun k _ _ => by omega), hs.good⟩
theorem PlaysAt.below (h : PlaysAt W B a5 a6 A ga gm wr) (f : Below B' wr w') (hB' : wr.heap.size ≤ B') : PlaysAt W B a5 a6 A ga gm w' := by
  have hB := h.hB
  have hbW := h.bel.size
  refine ⟨fun i hi => ?_, fun i hi => ?_, fun i hi => ?_, h.errs.fr (Fr.of_below f (fun _ => False)) (by omega) (fun _ _ h => h), h.lea, h.inj, h.na, h.l5, h.l6, Nat.le_trans hB f.size, h.bel.trans (f.mono (by omega))⟩
  · exact (f.cell (p := ⟨a5, i, none⟩) (by have := h.l5; simp; omega)).trans (h.b5 i hi)
  · exact (f.cell (p := ⟨a6, i, none⟩) (by have := h.l6; simp; omega)).trans (h.b6 i hi)
  · obtain ⟨s, hs⟩ := h.both i hi
    exact ⟨s, hs.a.below f hB', hs.m.below f hB', hs.good⟩
end

/-- While the acceptors are made: k of three. -/
structure TrioAt (W : World) (a5 a6 : Nat) (A : Nat → Addr) (ga gm : Nat → Nat) (k : Nat) (wr : World) : Prop where
  b5 : ∃ cs, Blk wr a5 55 cs ∧ cs.size = 3 ∧ ∀ j, j < k → cs[j]? = some (.pointer (some ⟨ga j, 0, none⟩))
  b6 : ∃ cs, Blk wr a6 57 cs ∧ cs.size = 3 ∧ ∀ j, j < k → cs[j]? = some (.pointer (some ⟨gm j, 0, none⟩))
  acc : ∀ j, j < k → ∃ n, Blk wr (ga j) 156 ((Acc.new n).cells (.slice none 0 0)) ∧ Blk wr (gm j) 59 ((Acc.new n).cells (.slice none 0 0))
  lea : ∀ j, j < k → W.heap.size ≤ ga j ∧ W.heap.size ≤ gm j
  inj : ∀ i j, i < k → j < k → i ≠ j → ga i ≠ ga j ∧ gm i ≠ gm j
  l5 : W.heap.size ≤ a5
  l6 : W.heap.size ≤ a6
  bel : Below W.heap.size W wr

section
variable {W wr w' : World} {B a5 a6 k : Nat} {A : Nat → Addr} {ga gm : Nat → Nat}
theorem TrioAt.done (h : TrioAt W a5 a6 A ga gm 3 wr) (hE : Errs W W.heap.size A G18) : PlaysAt W wr.heap.size a5 a6 A ga gm wr := by
  obtain ⟨c5, h5, _, k5⟩ := h.b5
  obtain ⟨c6, h6, _, k6⟩ := h.b6
  refine ⟨fun j hj => (h5.cell j).trans (k5 j hj), fun j hj => (h6.cell j).trans (k6 j hj), fun j hj => ?_, hE.fr (Fr.of_below h.bel (fun _ => False)) (Nat.le_refl _) (fun _ _ h => h), h.lea, h.inj, fun j hj => ?_, h5.lt, h6.lt, Nat.le_refl _, h.bel⟩
  · obtain ⟨n, q1, q2⟩ := h.acc j hj
    exact ⟨Acc.new n, ⟨q1.lt, Nat.le_refl _, _, q1, (OwnLed.nil_ _ _ _).at_⟩, ⟨q2.lt, Nat.le_refl _, _, q2, (OwnLed.nil_ _ _ _).at_⟩, Acc.Good.new_ n⟩
  · obtain ⟨n, q1, q2⟩ := h.acc j hj
    exact ⟨h5.ne_type q1 (by decide), h5.ne_type q2 (by decide), h6.ne_type q1 (by decide), h6.ne_type q2 (by decide)⟩

theorem TrioAt.step (h : TrioAt W a5 a6 A ga gm k wr) (hk : k < 3) {w2 : World} (b2 : Below wr.heap.size wr w2) {g : Nat} {n : Int} (hg : wr.heap.size ≤ g) (hB : Blk w2 g 156 ((Acc.new n).cells (.slice none 0 0))) :
    TrioAt W a5 a6 A (fun j => if j = k then g else ga j) (fun j => if j = k then w2.heap.size else gm j) (k + 1)
      (((w2.setCell ⟨a5, k, none⟩ (.pointer (some ⟨g, 0, none⟩))).setCell ⟨a6, k, none⟩ (.pointer (some ⟨w2.heap.size, 0, none⟩))).alloc (.cells ((Acc.new n).cells (.slice none 0 0)) 59)) := by
  obtain ⟨c5, h5, s5, k5⟩ := h.b5
  obtain ⟨c6, h6, s6, k6⟩ := h.b6
  have h5l := h5.lt
  have h6l := h6.lt
  have h56 : a5 ≠ a6 := h5.ne_type h6 (by decide)
  have hbW := h.bel.size
  have hs2 := b2.size
  have hgl := hB.lt
  have f3 : Fr wr.heap.size (fun k => k = a5 ∨ k = a6) wr (((w2.setCell ⟨a5, k, none⟩ (.pointer (some ⟨g, 0, none⟩))).setCell ⟨a6, k, none⟩ (.pointer (some ⟨w2.heap.size, 0, none⟩))).alloc (.cells ((Acc.new n).cells (.slice none 0 0)) 59)) :=
    (((Fr.of_below b2 _).setCell (p := ⟨a5, k, none⟩) (.inl (.inl rfl)) _).setCell (p := ⟨a6, k, none⟩) (.inl (.inr rfl)) _).alloc (by simp; omega) _
  refine ⟨⟨_, ((((h5.below b2 h5l).set_ k _).far (p := ⟨a6, k, none⟩) h56 _).alloc _), by simp [s5], fun j hj => ?_⟩, ⟨_, ((((h6.below b2 h6l).far (p := ⟨a5, k, none⟩) (Ne.symm h56) _).set_ k _).alloc _), by simp [s6], fun j hj => ?_⟩, fun j hj => ?_, fun j hj => ?_, fun i j hi hj hij => ?_, h.l5, h.l6, ?_⟩
  · by_cases e : j = k
    · subst e; simp [s5, hk]
    · rw [Array.getElem?_setIfInBounds_ne (by omega)]
      simp only [if_neg e]
      exact k5 j (by omega)
  · by_cases e : j = k
    · subst e; simp [s6, hk]
    · rw [Array.getElem?_setIfInBounds_ne (by omega)]
      simp only [if_neg e]
      exact k6 j (by omega)
  · by_cases e : j = k
    · subst e
      simp only [if_true]
      exact ⟨n, ((hB.far (p := ⟨a5, j, none⟩) (by simp; omega) _).far (p := ⟨a6, j, none⟩) (by simp; omega) _).alloc _, by
        have := Blk.new ((w2.setCell ⟨a5, j, none⟩ (.pointer (some ⟨g, 0, none⟩))).setCell ⟨a6, j, none⟩ (.pointer (some ⟨w2.heap.size, 0, none⟩))) 59 ((Acc.new n).cells (.slice none 0 0))
        simpa using this⟩
    · simp only [if_neg e]
      obtain ⟨m, q1, q2⟩ := h.acc j (by omega)
      exact ⟨m, q1.fr f3 q1.lt (by have := h5.ne_type q1 (by decide); have := h6.ne_type q1 (by decide); omega), q2.fr f3 q2.lt (by have := h5.ne_type q2 (by decide); have := h6.ne_type q2 (by decide); omega)⟩
  · by_cases e : j = k
    · subst e; simp only [if_true]; omega
    · simp only [if_neg e]; exact h.lea j (by omega)
  · have old : ∀ j, j < k → ga j < wr.heap.size ∧ gm j < wr.heap.size := fun j hj => by
      obtain ⟨m, q1, q2⟩ := h.acc j hj
      exact ⟨q1.lt, q2.lt⟩
    by_cases e1 : i = k
    · subst e1
      have e2 : ¬ j = i := fun e => hij e.symm
      simp only [if_true, if_neg e2]
      have := old j (by omega)
      omega
    · by_cases e2 : j = k
      · subst e2
        simp only [if_true, if_neg e1]
        have := old i (by omega)
        omega
      · simp only [if_neg e1, if_neg e2]
        exact h.inj i j (by omega) (by omega) hij
  · exact h.bel.trans ((f3.mono hbW (S' := fun _ => False) (fun q h1 h2 => by have := h.l5; have := h.l6; omega)).below (fun _ _ h => h))
end

theorem PlaysAt.drew {W wr : World} {B a5 a6 : Nat} {A : Nat → Addr} {ga gm : Nat → Nat} (h : PlaysAt W B a5 a6 A ga gm wr) : PlaysAt W B a5 a6 A ga gm wr.drew := h.below (Below.refl wr.heap.size wr).drew (Nat.le_refl _)

theorem which3 (w : Int) : ∃ j : Nat, j < 3 ∧ (wrap64 (w.tmod 3 + 3)).tmod 3 = j := by
  have h1 : w.tmod 3 < 3 := Int.tmod_lt_of_pos _ (by omega)
  have h2 : -3 < w.tmod 3 := by
    have := Int.tmod_lt_of_pos (-w) (b := 3) (by omega)
    rw [Int.neg_tmod] at this
    omega
  have h3 : wrap64 (w.tmod 3 + 3) = w.tmod 3 + 3 := by unfold wrap64; omega
  rw [h3, Int.tmod_eq_emod_of_nonneg (by omega)]
  exact ⟨((w.tmod 3 + 3) % 3).toNat, by omega, by omega⟩

set_option maxRecDepth 100000 in
set_option maxHeartbeats 800000 in
theorem plays_any (N : Nat → Int) (v : Value) (os : List OpR) (W : World) (A : Nat → Addr) (hE : Errs W W.heap.size A G18) (hS : ScriptAt W v os) :
    Calls Tryd.prog 5 #[.agg #[.int .i64 (N 0), .int .i64 (N 1), .int .i64 (N 2)], v] W fun e W' => e = .returned (.bool true) ∧ Below W.heap.size W W' := by
  have h0 := hE.cell 0 (by decide)
  have h3 := hE.cell 3 (by decide)
  have h00 := World.block_lt_of_cell? W _ h0
  have h03 := World.block_lt_of_cell? W _ h3
  simp only at h00 h03
  have hS' := hS
  obtain ⟨D, c, rfl, hlc, hcm, _⟩ := hS'
  obtain ⟨n, hn⟩ : ∃ n, n = os.length := ⟨_, rfl⟩
  rw [← hn] at hS hlc ⊢
  have hn63 : n ≤ 9223372036854775807 := by simp only [maxLen] at hcm; omega
  have HN := Lib.hid hn
  clear hn hlc hcm
  go_enter Tryd.func5, Tryd.ntmps5
  go_wp2_with (fail)
  refine (alive9_any _ (A 3) ((((Below.refl W.heap.size W).alloc (Nat.le_refl _) _).cell (p := ⟨3, 0, none⟩) h03).trans h3)).mono ?_
  rintro e w1 ⟨rfl, hb1⟩
  have hbb : Below W.heap.size W w1 := ((Below.refl W.heap.size W).alloc (Nat.le_refl _) _).trans (hb1.mono (by simp))
  have hX : Blk w1 W.heap.size 53 #[.int .i64 (N 0), .int .i64 (N 1), .int .i64 (N 2)] := (Blk.new W 53 _).below hb1 (by simp)
  clear hb1
  go_upto_region 5 with (fail)
  refine wp_letter (fun W2 => TrioAt W w1.heap.size (w1.heap.size + 1) A (fun _ => 0) (fun _ => 0) 0 W2 ∧ Blk W2 W.heap.size 53 #[.int .i64 (N 0), .int .i64 (N 1), .int .i64 (N 2)])
    ⟨⟨⟨_, (Blk.new w1 55 _).alloc _, rfl, fun j hj => absurd hj (by omega)⟩, ⟨_, Blk.new1 w1 _ 57 _, rfl, fun j hj => absurd hj (by omega)⟩, fun j hj => absurd hj (by omega), fun j hj => absurd hj (by omega), fun i j hi => absurd hi (by omega), hbb.size, Nat.le_trans hbb.size (Nat.le_succ _), (hbb.alloc hbb.size _).alloc (by have := hbb.size; simp; omega) _⟩, (hX.alloc _).alloc _⟩ ?_
  rintro W2 ⟨hT, hX2⟩
  obtain ⟨a5, ha5⟩ : ∃ a5, a5 = w1.heap.size := ⟨_, rfl⟩
  obtain ⟨a6, ha6⟩ : ∃ a6, a6 = w1.heap.size + 1 := ⟨_, rfl⟩
  rw [← ha6, ← ha5] at hT
  rw [← ha6, ← ha5]
  clear ha5 ha6 hbb hX
  have hrX : W2.rangeAt W.heap.size 0 [.int .i64 (N 0), .int .i64 (N 1), .int .i64 (N 2)] := fun j v hv => by
    rw [Nat.zero_add]; exact (hX2.cell j).trans (by simpa using hv)
  go_upto_block 0 with (first
    | ((with_reducible refine law_load 53 (.tmp 2) W.heap.size 0 _ ?_ hrX Tryd.underlying53 ?_ ?_ ?_); rfl; rfl; kernel_rfl)
    | fail)
  have HT := Lib.hid hT
  clear hT hX2 hrX
  go_wp2_with (fail)
  go_loopw [17] (fun i wr => ∃ (k : Nat) (ga gm : Nat → Nat), k ≤ 3 ∧ i = .int .i64 k ∧ TrioAt W a5 a6 A ga gm k wr) (fun i _ => 3 - (intOf i).toNat)
  case atStart => exact ⟨0, _, _, by omega, rfl, HT.out⟩
  case round =>
    obtain ⟨k, ga, gm, hk, rfl, hT⟩ := hrel
    by_cases hlt : k < 3
    · have hidx : ∀ w : World, (Instr.index 53 (.agg #[.int .i64 (N 0), .int .i64 (N 1), .int .i64 (N 2)]) (.int .i64 k)).run Tryd.prog w = .ok (.int .i64 (N k)) w := by
        have hk3 : k = 0 ∨ k = 1 ∨ k = 2 := by omega
        rcases hk3 with rfl | rfl | rfl
        · exact fun w => by kernel_rfl
        · exact fun w => by kernel_rfl
        · exact fun w => by kernel_rfl
      obtain ⟨nd, hnd⟩ : ∃ nd, nd = N k := ⟨_, rfl⟩
      rw [← hnd] at hidx
      clear hnd
      have hEr : wr.cell? ⟨0, 0, none⟩ = some (errv (A 0)) := (hT.bel.cell (p := ⟨0, 0, none⟩) h00).trans h0
      by_cases hnode : 0 ≤ nd ∧ nd < 16
      · obtain ⟨hn0, hn1⟩ := hnode
        go_wp2_with (fail)
        refine (new_ok2 nd _ hn0 hn1).mono ?_
        rintro e w2 ⟨g, rfl, hg, hB, b2⟩
        have hstep := hT.step hlt b2 hg hB
        obtain ⟨c5, h5, s5, _⟩ := hT.b5
        obtain ⟨c6, h6, s6, _⟩ := hT.b6
        have l5 := h5.lt
        have l6 := h6.lt
        have hs2 := b2.size
        have e5 : w2.cell? ⟨a5, k, none⟩ = some c5[k] := ((h5.below b2 l5).cell k).trans (Array.getElem?_eq_getElem (by omega))
        have e6 : w2.cell? ⟨a6, k, none⟩ = some c6[k] := ((h6.below b2 l6).cell k).trans (Array.getElem?_eq_getElem (by omega))
        have f5 : w2.frozen? ⟨a5, k, none⟩ = false := (h5.below b2 l5).frozen k
        have f6 : w2.frozen? ⟨a6, k, none⟩ = false := (h6.below b2 l6).frozen k
        have n5 : a5 < w2.heap.size := by omega
        have n6 : a6 < w2.heap.size := by omega
        have hne56 : ¬ a6 = a5 := fun e => h5.ne_type h6 (by decide) e.symm
        have HS := Lib.hid hstep
        clear hstep hT h5 h6 hB hEr hidx
        go_wp2_with (fail)
        go_roundw
        case rel => exact ⟨k + 1, _, _, by omega, by go_num, HS.out⟩
        case measure => simp [intOf]; omega
      · have heq := errEq_same (A 0)
        by_cases hn0 : nd < 0
        · go_wp2_with (fail)
          refine (new_bad nd (A 0) _ hEr (.inl hn0)).mono ?_
          rintro e w2 ⟨rfl, b2⟩
          have hE2 : w2.cell? ⟨0, 0, none⟩ = some (errv (A 0)) := (b2.cell (World.block_lt_of_cell? wr _ hEr)).trans hEr
          go_wp2_with (fail)
          go_ret
          exact ⟨rfl, hT.bel.trans (b2.mono hT.bel.size)⟩
        · have hn1 : nd > 15 := by omega
          go_wp2_with (fail)
          refine (new_bad nd (A 0) _ hEr (.inr (by omega))).mono ?_
          rintro e w2 ⟨rfl, b2⟩
          have hE2 : w2.cell? ⟨0, 0, none⟩ = some (errv (A 0)) := (b2.cell (World.block_lt_of_cell? wr _ hEr)).trans hEr
          go_wp2_with (fail)
          go_ret
          exact ⟨rfl, hT.bel.trans (b2.mono hT.bel.size)⟩
    · have hk3 : k = 3 := by omega
      subst hk3
      have hP := hT.done hE
      obtain ⟨B, hB⟩ : ∃ B, B = wr.heap.size := ⟨_, rfl⟩
      have hBW : W.heap.size ≤ B := by rw [hB]; exact hT.bel.size
      rw [← hB] at hP
      have HP := Lib.hid hP
      clear hT HT hB hP
      obtain ⟨w0, hw0⟩ : ∃ w0, w0 = wr := ⟨_, rfl⟩
      rw [← hw0] at HP ⊢
      clear hw0
      go_wp2_with (fail)
      go_loopw [56] (fun i wr => ∃ (k : Nat), k ≤ n ∧ i = .int .i64 k ∧ PlaysAt W B a5 a6 A ga gm wr) (fun i _ => n - (intOf i).toNat)
      case atStart => exact ⟨0, Nat.zero_le _, rfl, HP.out⟩
      case round =>
        obtain ⟨k, hk, rfl, hP⟩ := hrel
        by_cases hlt : k < n
        · have hk1 : k < os.length := by rw [← HN.out]; exact hlt
          obtain ⟨o, ho⟩ : ∃ o, os[k]? = some o := ⟨_, List.getElem?_eq_getElem hk1⟩
          obtain ⟨b, q, rfl, hbW, hrg, hok⟩ := hS.range ho
          have hrange : wr.rangeAt b (q + k * 5) o.cells := rangeAt_below hrg hP.bel hbW
          clear hrg
          have hone := op_oneCell o hok
          go_upto_region 18 with (first
            | ((with_reducible refine law_load 61 (.tmp 58) b (q + k * 5) o.cells ?_ hrange Tryd.underlying61 ?_ ?_ ?_); rfl; rfl; exact op_info)
            | ((with_reducible refine law_store_fresh 61 (.tmp 12) (.tmp 59) wr 61 _ o.cells.toArray ?_ ?_ rfl ?_ ?_ hone ?_); rfl; rfl; exact op_info; rfl)
            | fail)
          refine wp_letter (fun W3 => PlaysAt W B a5 a6 A ga gm W3 ∧ Blk W3 wr.heap.size 61 o.cells.toArray)
            ⟨hP.below ((Below.refl _ _).alloc (Nat.le_refl _) _) (Nat.le_refl _), Blk.new _ _ _⟩ ?_
          rintro W3 ⟨hP3, hO⟩
          obtain ⟨x, hx⟩ : ∃ x, x = wr.heap.size := ⟨_, rfl⟩
          have hxB : B ≤ x := by rw [hx]; exact hP.hB
          rw [← hx] at hO ⊢
          clear hP hrange hone hx
          obtain ⟨kind, which, r, nn, lv, led⟩ := o
          have cO := hO.cell
          simp only [OpR.cells] at cO
          obtain ⟨_, hwh, _, _, hL⟩ := hok
          simp only at hL hwh
          obtain ⟨hwh1, hwh2⟩ := hwh
          clear ho hS
          obtain ⟨j, hj, hwj⟩ := which3 which
          have hj1 : (j : Int) < 3 := by omega
          go_upto_region 19 with (fail)
          have T := hP3.drew
          have X := hO.drew
          have q5 := hP3.b5 j hj
          have q6 := hP3.b6 j hj
          go_region_held3 (fun w' => w'.cell? ⟨a5, j, none⟩ = some (.pointer (some ⟨ga j, 0, none⟩)) ∧ w'.cell? ⟨a6, j, none⟩ = some (.pointer (some ⟨gm j, 0, none⟩)) ∧ w'.cell? ⟨x, 0, none⟩ = some (.int .i64 kind) ∧ w'.cell? ⟨x, 1, none⟩ = some (.int .i64 which) ∧ w'.cell? ⟨x, 2, none⟩ = some (.int .i64 r) ∧ w'.cell? ⟨x, 3, none⟩ = some (.int .i64 nn) ∧ w'.cell? ⟨x, 4, none⟩ = some lv) (go_keep)
            (first
              | (go_at_call 29
                 obtain ⟨s, hs⟩ := T.both j hj
                 have hLc : LedAt _ 0 W.heap.size lv led := hL.fr (Fr.of_below T.bel (fun _ => False)) (Nat.le_refl _) (fun _ _ _ h => h)
                 first
                   | with_reducible refine (play_any kind which r nn lv led hs (T.sure hj) hLc (T.lea j hj).1 (T.lea j hj).2).mono ?_
                   | with_reducible refine (play_any 4 0 0 0 (.slice none 0 0) [] hs (T.sure hj) ((OwnLed.nil_ _ 0 0).at_) (Nat.zero_le _) (Nat.zero_le _)).mono ?_
                 rintro e wA ⟨rfl, fA, hA⟩
                 have hgB := hs.a.1
                 have hmB := hs.m.1
                 have T := T.step hj fA hA
                 have X := X.fr fA X.lt (by omega)
                 have cO := X.cell
                 simp only [OpR.cells] at cO
                 have q5 := T.b5 j hj
                 have q6 := T.b6 j hj))
          have HT := Lib.hid T
          clear T X cO q5 q6
          go_wp2_with fail
          refine ⟨?_, ?_⟩
          · (repeat apply Exists.intro)
            refine ⟨?_, rfl⟩
            exact ⟨k + 1, by omega, by go_num, HT.out⟩
          · simp [intOf]; omega
        · have hkn : k = n := by omega
          subst hkn
          have hbel := hP.bel
          go_wp2
          go_ret
          exact ⟨rfl, hbel⟩

end Go.Proofs.YtnlncfjibbdimaaDoor
