/-
  The document's Put: a command behind a ledger.
  The document's round in memory; it is made.
  The document's round: Begin.
  The document's round: does an answer count?
  The document's round: its ledger and the command's place.
-/
import Derived.Test.YtnlncfjibbdimaaDoorQA13
import Derived.Test.YtnlncfjibbdimaaDoorRCopy
import Derived.Test.YtnlncfjibbdimaaDoorInLaw
namespace Go.Proofs.YtnlncfjibbdimaaDoor
open Go.RowKit
set_option linter.unusedSimpArgs false
set_option linter.unusedVariables false

/-- What the document's Put answers: M is a set of blocks that change. -/
def RPut13 (M : Nat → Prop) (v : Value) (l : List Cmd) (c : Cmd) (w : World) (e : Ending) (w' : World) : Prop :=
  ∃ v' k q, e = .returned (.tuple #[v', .int .i64 k, .int .i64 q]) ∧ Below w.heap.size w w' ∧
    ((∃ l', putL l c = some l' ∧ q = 0 ∧ ((v' = v ∧ l' = l) ∨ LedP w' M v' l')) ∨ (putL l c = none ∧ q = 10))

theorem wp_append_eq {o : Oper} {a : Act} {W W' : World} {K : Act → World → Prop} {Q : Exit → Act → World → Prop} (s x : Operand) (v1 v2 v' : Value) (ho : o.op = .call { callee := .builtin .append, args := #[s, x], argTypes := #[46, 46] }) (hty : o.type = 46)
    (hs : a.eval s = v1) (hx : a.eval x = v2) (hrun : (Builtin.append_ #[46, 46] 46 #[v1, v2]).run Tryd.prog W = .ok v' W') (h : K (a.put o.dst v') W') : o.wp Tryd.prog a W K Q := by
  unfold Oper.wp execOp
  simp only [ho, hty, resolve, invoke, builtin, Sem.run_bind, Sem.run_pure, Result.andThen_ok, List.map_toArray, List.map_cons, List.map_nil, hs, hx, hrun]
  exact h

set_option maxRecDepth 100000 in
set_option maxHeartbeats 3200000 in
theorem rput_found (w : World) (M : Nat → Prop) (lo hi pa pb : Nat) (v : Value) (l : List Cmd) (h : LedAt w lo hi v l) (hhi : hi ≤ w.heap.size) (c : Cmd) (pv : Value) (hp : IntsAt w pa pb pv c.parts) (hpb : pb ≤ w.heap.size) (hpM : ∀ m, M m → m < pa ∨ pb ≤ m) (hM : ∀ m, M m → m < w.heap.size) (hf : 0 ≤ idxN l c.idn c.idb c.ids) :
    Calls Tryd.prog 156 #[v, .agg (c.cells pv).toArray] w (RPut13 M v l c w) := by
  have bA : Below w.heap.size w (w.alloc (.cells (c.cells pv).toArray 81)) := (Below.refl _ _).alloc (Nat.le_refl _) _
  have hX := Blk.new w 81 (c.cells pv).toArray
  have c1 : (w.alloc (.cells (c.cells pv).toArray 81)).cell? ⟨w.heap.size, 1, none⟩ = some (.int .i64 c.idn) := hX.cell 1
  have c2 : (w.alloc (.cells (c.cells pv).toArray 81)).cell? ⟨w.heap.size, 2, none⟩ = some (.int .i64 c.idb) := hX.cell 2
  have c3 : (w.alloc (.cells (c.cells pv).toArray 81)).cell? ⟨w.heap.size, 3, none⟩ = some (.int .i64 c.ids) := hX.cell 3
  have k157 := rplace157 (w.alloc (.cells (c.cells pv).toArray 81)) lo hi v l (h.fr (Fr.of_below bA (fun _ => False)) hhi (fun _ _ _ h => h)) (Nat.le_trans hhi bA.size) c.idn c.idb c.ids
  obtain ⟨A, cap, rfl, hl1, hl2, hl3⟩ := h.form
  obtain ⟨n, hn⟩ : ∃ n, n = l.length := ⟨_, rfl⟩
  rw [← hn] at h k157 ⊢
  have hput : putL l c = some l := by unfold putL; rw [if_pos hf]
  obtain ⟨i, hi'⟩ : ∃ i, i = idxN l c.idn c.idb c.ids := ⟨_, rfl⟩
  rw [← hi'] at k157 hf
  have hgt : i + 1 > 0 := by omega
  have HK := Lib.hid (And.intro k157 (And.intro bA hput))
  clear k157 bA h hX hl1 hl2 hl3 hn hput hi' hf
  go_enter Tryd.func156, Tryd.ntmps156
  go_wp2_with (first | (go_at_call 157; refine HK.out.1.mono ?_; rintro e w2 ⟨rfl, b2⟩; have H2 := Lib.hid b2; clear b2) | fail)
  go_ret3
  exact ⟨_, _, _, rfl, HK.out.2.1.trans (H2.out.mono HK.out.2.1.size), .inl ⟨l, HK.out.2.2, rfl, .inl ⟨rfl, rfl⟩⟩⟩

set_option maxRecDepth 100000 in
set_option maxHeartbeats 3200000 in
theorem rput_full (w : World) (M : Nat → Prop) (lo hi pa pb : Nat) (v : Value) (l : List Cmd) (h : LedAt w lo hi v l) (hhi : hi ≤ w.heap.size) (c : Cmd) (pv : Value) (hp : IntsAt w pa pb pv c.parts) (hpb : pb ≤ w.heap.size) (hpM : ∀ m, M m → m < pa ∨ pb ≤ m) (hM : ∀ m, M m → m < w.heap.size) (hf : idxN l c.idn c.idb c.ids = -1) (hl : 4096 ≤ l.length) :
    Calls Tryd.prog 156 #[v, .agg (c.cells pv).toArray] w (RPut13 M v l c w) := by
  have bA : Below w.heap.size w (w.alloc (.cells (c.cells pv).toArray 81)) := (Below.refl _ _).alloc (Nat.le_refl _) _
  have hX := Blk.new w 81 (c.cells pv).toArray
  have c1 : (w.alloc (.cells (c.cells pv).toArray 81)).cell? ⟨w.heap.size, 1, none⟩ = some (.int .i64 c.idn) := hX.cell 1
  have c2 : (w.alloc (.cells (c.cells pv).toArray 81)).cell? ⟨w.heap.size, 2, none⟩ = some (.int .i64 c.idb) := hX.cell 2
  have c3 : (w.alloc (.cells (c.cells pv).toArray 81)).cell? ⟨w.heap.size, 3, none⟩ = some (.int .i64 c.ids) := hX.cell 3
  have k157 := rplace157 (w.alloc (.cells (c.cells pv).toArray 81)) lo hi v l (h.fr (Fr.of_below bA (fun _ => False)) hhi (fun _ _ _ h => h)) (Nat.le_trans hhi bA.size) c.idn c.idb c.ids
  obtain ⟨A, cap, rfl, hl1, hl2, hl3⟩ := h.form
  obtain ⟨n, hn⟩ : ∃ n, n = l.length := ⟨_, rfl⟩
  rw [← hn] at h k157 ⊢
  have hput : putL l c = none := by unfold putL; rw [if_neg (by omega), if_pos (by omega)]
  rw [hf] at k157
  have hge : (n : Int) ≥ 4096 := by omega
  have HK := Lib.hid (And.intro k157 (And.intro bA hput))
  clear k157 bA h hX hl1 hl2 hl3 hn hput hf hl
  go_enter Tryd.func156, Tryd.ntmps156
  go_wp2_with (first | (go_at_call 157; refine HK.out.1.mono ?_; rintro e w2 ⟨rfl, b2⟩; have H2 := Lib.hid b2; clear b2) | fail)
  go_ret3
  exact ⟨_, _, _, rfl, HK.out.2.1.trans (H2.out.mono HK.out.2.1.size), .inr ⟨HK.out.2.2, rfl⟩⟩

set_option maxRecDepth 100000 in
set_option maxHeartbeats 3200000 in
theorem rput_more (w : World) (M : Nat → Prop) (lo hi pa pb : Nat) (v : Value) (l : List Cmd) (h : LedAt w lo hi v l) (hhi : hi ≤ w.heap.size) (c : Cmd) (pv : Value) (hp : IntsAt w pa pb pv c.parts) (hpb : pb ≤ w.heap.size) (hpM : ∀ m, M m → m < pa ∨ pb ≤ m) (hM : ∀ m, M m → m < w.heap.size) (hf : idxN l c.idn c.idb c.ids = -1) (hl : l.length < 4096) :
    Calls Tryd.prog 156 #[v, .agg (c.cells pv).toArray] w (RPut13 M v l c w) := by
  have bA : Below w.heap.size w (w.alloc (.cells (c.cells pv).toArray 81)) := (Below.refl _ _).alloc (Nat.le_refl _) _
  have hX := Blk.new w 81 (c.cells pv).toArray
  have c1 : (w.alloc (.cells (c.cells pv).toArray 81)).cell? ⟨w.heap.size, 1, none⟩ = some (.int .i64 c.idn) := hX.cell 1
  have c2 : (w.alloc (.cells (c.cells pv).toArray 81)).cell? ⟨w.heap.size, 2, none⟩ = some (.int .i64 c.idb) := hX.cell 2
  have c3 : (w.alloc (.cells (c.cells pv).toArray 81)).cell? ⟨w.heap.size, 3, none⟩ = some (.int .i64 c.ids) := hX.cell 3
  have k157 := rplace157 (w.alloc (.cells (c.cells pv).toArray 81)) lo hi v l (h.fr (Fr.of_below bA (fun _ => False)) hhi (fun _ _ _ h => h)) (Nat.le_trans hhi bA.size) c.idn c.idb c.ids
  obtain ⟨A, cap, rfl, hl1, hl2, hl3⟩ := h.form
  obtain ⟨n, hn⟩ : ∃ n, n = l.length := ⟨_, rfl⟩
  rw [← hn] at h k157 ⊢
  have hput : putL l c = some (l ++ [c]) := by unfold putL; rw [if_neg (by omega), if_neg (by omega)]
  rw [hf] at k157
  have hge : ¬ (n : Int) ≥ 4096 := by omega
  have hw1 : IntKind.i64.wrap ((n : Int) + 1) = (n : Int) + 1 := by rw [IntKind.wrap_i64]; omega
  have HK := Lib.hid (And.intro k157 (And.intro bA (And.intro hput (And.intro hX h))))
  have HN := Lib.hid hn
  clear k157 bA h hX hl1 hl2 hl3 hn hput hf hl
  go_enter Tryd.func156, Tryd.ntmps156
  go_upto_region 6 with (first | (go_at_call 157; refine HK.out.1.mono ?_; rintro e w2 ⟨rfl, b2⟩; have H2 := Lib.hid b2; clear b2) | fail)
  refine wp_letter (fun W => Below w.heap.size w W ∧ Blk W w.heap.size 81 (c.cells pv).toArray) ⟨HK.out.2.1.trans (H2.out.mono HK.out.2.1.size), HK.out.2.2.2.1.below H2.out HK.out.2.2.2.1.lt⟩ ?_
  clear c1 c2 c3
  rintro W ⟨hb, hX⟩
  obtain ⟨x, hx⟩ : ∃ x, x = w.heap.size := ⟨_, rfl⟩
  rw [← hx] at hX ⊢
  have hXs : ∀ W', Below W.heap.size W W' → W'.rangeAt x 0 (c.cells pv) := fun W' b => (hX.below b hX.lt).range
  have k42 : ∀ W', Below W.heap.size W W' → Calls Tryd.prog 42 #[.slice A n cap] W' (CopyPost W' l) := fun W' b => by
    have b' := hb.trans (b.mono hb.size)
    exact rcopy_any W' lo hi _ l (HK.out.2.2.2.2.fr (Fr.of_below b' (fun _ => False)) hhi (fun _ _ _ h => h)) (Nat.le_trans hhi b'.size)
  have hpW := hp.fr (Fr.of_below hb (fun _ => False)) hpb (fun _ _ _ h => h)
  have HQ := Lib.hid (And.intro hXs (And.intro k42 (And.intro hpW (And.intro (Nat.le_trans hpb hb.size) (And.intro hpM (And.intro (fun m hm => Nat.lt_of_lt_of_le (hM m hm) hb.size) (And.intro hb hx)))))))
  have hBr : Below W.heap.size W W.drew := (Below.refl W.heap.size W).drew
  clear hX k42 hb hx hXs hpW hp hpM hM
  go_cut [4, 5, 6] (fun v4 v5 v6 wx => ∃ A4 c4, v4 = .slice A4 (n + 1) c4 ∧ v5 = .int .i64 ((n : Int) + 1) ∧ v6 = .int .i64 0 ∧ LedP wx M (.slice A4 (n + 1) c4) (l ++ [c]) ∧ Below W.heap.size W wx)
  case first =>
    refine wp_region_held_drew (S := fun w' => Below W.heap.size W w') (by kernel_rfl) hBr (fun _ => ?_)
    refine wpAnyH_take (i := 0) (v := .slice A n cap) rfl (by kernel_rfl) (by kernel_rfl) (by kernel_rfl) (fun _ _ _ h => h) (Or.inl ⟨by kernel_rfl, fun w' hSw => ?_⟩) hBr ?_
    · go_simp
    try simp only [List.getElem_toArray, List.getElem_cons_succ, List.getElem_cons_zero, Act.put, List.setIfInBounds_toArray, List.set_cons_zero, List.set_cons_succ]
    refine wpAnyH_take (i := 2) (v := .agg (c.cells pv).toArray) rfl (by kernel_rfl) (by kernel_rfl) (by kernel_rfl) (fun _ _ _ h => h) ?_ hBr ?_
    · refine yieldsIf_load_mid ?_ 81 (.tmp 3) ?_ x 0 ?_ (c.cells pv) _ HQ.out.1 Tryd.underlying81 ?_ cmd_info
      · kernel_rfl
      · rfl
      · kernel_rfl
      · rfl
    try simp only [List.getElem_toArray, List.getElem_cons_succ, List.getElem_cons_zero, Act.put, List.setIfInBounds_toArray, List.set_cons_zero, List.set_cons_succ]
    refine wpAnyH_take (i := 5) (v := .slice A n cap) rfl (by kernel_rfl) (by kernel_rfl) (by kernel_rfl) (fun _ _ _ h => h) (Or.inl ⟨by kernel_rfl, fun w' hSw => ?_⟩) hBr ?_
    · go_simp
    try simp only [List.getElem_toArray, List.getElem_cons_succ, List.getElem_cons_zero, Act.put, List.setIfInBounds_toArray, List.set_cons_zero, List.set_cons_succ]
    refine wpAnyH_take (i := 6) (v := .int .i64 n) rfl (by kernel_rfl) (by kernel_rfl) (by kernel_rfl) (fun _ _ _ h => h) (Or.inl ⟨by kernel_rfl, fun w' hSw => ?_⟩) hBr ?_
    · go_simp
    try simp only [List.getElem_toArray, List.getElem_cons_succ, List.getElem_cons_zero, Act.put, List.setIfInBounds_toArray, List.set_cons_zero, List.set_cons_succ]
    refine wpAnyH_take (i := 7) (v := .int .i64 ((n : Int) + 1)) rfl (by kernel_rfl) (by kernel_rfl) (by kernel_rfl) (fun _ _ _ h => h) (Or.inl ⟨by kernel_rfl, fun w' hSw => ?_⟩) hBr ?_
    · go_simp
    try simp only [List.getElem_toArray, List.getElem_cons_succ, List.getElem_cons_zero, Act.put, List.setIfInBounds_toArray, List.set_cons_zero, List.set_cons_succ]
    refine wpAnyH_ready (rs := [1, 3]) (by kernel_rfl) (by simp) ?_
    refine AllReadyH.cons rfl (fun K hK => ?_) ?_
    · go_simp
      refine (HQ.out.2.1 _ hBr).mono ?_
      rintro e u1 ⟨v1, rfl, o1, d1⟩
      have hb1 := hBr.trans (d1.mono hBr.size)
      obtain ⟨A1, c1, hv1, _⟩ := o1.at_.form
      rw [← HN.out] at hv1
      subst hv1
      have H1 := Lib.hid (o1.wider hBr.size (Nat.le_refl _))
      clear o1
      refine Shut.out hK _ _ hb1 (fun _ => ?_)
      clear hK K
      try simp only [List.getElem_toArray, List.getElem_cons_succ, List.getElem_cons_zero, Act.put, List.setIfInBounds_toArray, List.set_cons_zero, List.set_cons_succ]
      refine wpAnyH_ready (rs := [3]) (by kernel_rfl) (by simp) ?_
      refine AllReadyH.cons rfl (fun K hK => ?_) AllReadyH.nil
      have hb2 : Below W.heap.size W (World.alloc u1 (.cells (c.cells pv).toArray 81)) := hb1.alloc hb1.size _
      have HO := Lib.hid (And.intro ((H1.out.fr (Fr.of_below ((Below.refl u1.heap.size u1).alloc (Nat.le_refl _) (.cells (c.cells pv).toArray 81)) (fun _ => False)) (Nat.le_refl _) (fun _ _ _ h => h)).wider (Nat.le_refl _) (by simp : u1.heap.size ≤ (World.alloc u1 (.cells (c.cells pv).toArray 81)).heap.size)) (Blk.new u1 81 (c.cells pv).toArray))
      rw [if_pos (by kernel_rfl)]
      refine wp_buildSlice1 (.tmp 21) (c.cells pv).toArray rfl rfl rfl ?_
      refine Shut.out hK _ _ hb2 (fun _ => ?_)
      clear hK K
      have hpp := HQ.out.2.2.1.fr (Fr.of_below hb2 (fun _ => False)) HQ.out.2.2.2.1 (fun _ _ _ h => h)
      try simp only [List.getElem_toArray, List.getElem_cons_succ, List.getElem_cons_zero, Act.put, List.setIfInBounds_toArray, List.set_cons_zero, List.set_cons_succ]
      refine wpAnyH_ready (rs := [4]) (by kernel_rfl) (by simp) ?_
      refine AllReadyH.cons rfl (fun K hK => ?_) AllReadyH.nil
      rw [if_pos (by kernel_rfl)]
      obtain ⟨v4, W4, hrun, L4, d4⟩ := append_ledP (M := M) HO.out.1 hb2.size HO.out.2 hpp HQ.out.2.2.2.1 HQ.out.2.2.2.2.1 HQ.out.2.2.2.2.2.1 (by have := HN.out; omega)
      have hb4 := hb2.trans d4
      obtain ⟨A4, c4, hv4⟩ : ∃ A4 c4, v4 = .slice A4 (n + 1) c4 := by
        obtain ⟨A4, c4, rows4, hv4, _⟩ := L4
        exact ⟨A4, c4, by rw [hv4, List.length_append, List.length_singleton, ← HN.out]⟩
      subst hv4
      have H4 := Lib.hid L4
      clear L4
      refine wp_append_eq (.tmp 20) (.tmp 22) _ _ _ rfl rfl rfl rfl hrun ?_
      refine Shut.out hK _ _ hb4 (fun _ => ?_)
      clear hK K hrun
      try simp only [List.getElem_toArray, List.getElem_cons_succ, List.getElem_cons_zero, Act.put, List.setIfInBounds_toArray, List.set_cons_zero, List.set_cons_succ]
      refine wpAnyH_take (i := 8) (v := .slice A4 (n + 1) c4) rfl (by kernel_rfl) (by kernel_rfl) (by kernel_rfl) (fun _ _ _ h => h) (Or.inl ⟨by kernel_rfl, fun w' hSw => ?_⟩) hb4 ?_
      · go_simp
      try simp only [List.getElem_toArray, List.getElem_cons_succ, List.getElem_cons_zero, Act.put, List.setIfInBounds_toArray, List.set_cons_zero, List.set_cons_succ]
      refine wpAnyH_take (i := 9) (v := .int .i64 ((n : Int) + 1)) rfl (by kernel_rfl) (by kernel_rfl) (by kernel_rfl) (fun _ _ _ h => h) (Or.inl ⟨by kernel_rfl, fun w' hSw => ?_⟩) hb4 ?_
      · go_simp
      try simp only [List.getElem_toArray, List.getElem_cons_succ, List.getElem_cons_zero, Act.put, List.setIfInBounds_toArray, List.set_cons_zero, List.set_cons_succ]
      refine wpAnyH_take (i := 10) (v := .int .i64 0) rfl (by kernel_rfl) (by kernel_rfl) (by kernel_rfl) (fun _ _ _ h => h) (Or.inl ⟨by kernel_rfl, fun w' hSw => ?_⟩) hb4 ?_
      · go_simp
      try simp only [List.getElem_toArray, List.getElem_cons_succ, List.getElem_cons_zero, Act.put, List.setIfInBounds_toArray, List.set_cons_zero, List.set_cons_succ]
      refine wpAnyH_done (by kernel_rfl) ?_ _
      go_wp2_with (fail)
      go_meet
      exact ⟨_, _, rfl, rfl, rfl, H4.out, hb4⟩
    refine AllReadyH.cons rfl (fun K hK => ?_) AllReadyH.nil
    · have hb1 : Below W.heap.size W (World.alloc W.drew (.cells (c.cells pv).toArray 81)) := hBr.alloc hBr.size _
      have HZ := Lib.hid (Blk.new W.drew 81 (c.cells pv).toArray)
      rw [if_pos (by kernel_rfl)]
      refine wp_buildSlice1 (.tmp 21) (c.cells pv).toArray rfl rfl rfl ?_
      refine Shut.out hK _ _ hb1 (fun _ => ?_)
      clear hK K
      try simp only [List.getElem_toArray, List.getElem_cons_succ, List.getElem_cons_zero, Act.put, List.setIfInBounds_toArray, List.set_cons_zero, List.set_cons_succ]
      refine wpAnyH_ready (rs := [1]) (by kernel_rfl) (by simp) ?_
      refine AllReadyH.cons rfl (fun K hK => ?_) AllReadyH.nil
      go_simp
      refine (HQ.out.2.1 _ hb1).mono ?_
      rintro e u1 ⟨v1, rfl, o1, d1⟩
      have hb2 := hb1.trans (d1.mono hb1.size)
      obtain ⟨A1, c1, hv1, _⟩ := o1.at_.form
      rw [← HN.out] at hv1
      subst hv1
      have HO := Lib.hid (And.intro (o1.wider hb1.size (Nat.le_refl _)) (HZ.out.below d1 HZ.out.lt))
      clear o1
      refine Shut.out hK _ _ hb2 (fun _ => ?_)
      clear hK K
      have hpp := HQ.out.2.2.1.fr (Fr.of_below hb2 (fun _ => False)) HQ.out.2.2.2.1 (fun _ _ _ h => h)
      try simp only [List.getElem_toArray, List.getElem_cons_succ, List.getElem_cons_zero, Act.put, List.setIfInBounds_toArray, List.set_cons_zero, List.set_cons_succ]
      refine wpAnyH_ready (rs := [4]) (by kernel_rfl) (by simp) ?_
      refine AllReadyH.cons rfl (fun K hK => ?_) AllReadyH.nil
      rw [if_pos (by kernel_rfl)]
      obtain ⟨v4, W4, hrun, L4, d4⟩ := append_ledP (M := M) HO.out.1 hb2.size HO.out.2 hpp HQ.out.2.2.2.1 HQ.out.2.2.2.2.1 HQ.out.2.2.2.2.2.1 (by have := HN.out; omega)
      have hb4 := hb2.trans d4
      obtain ⟨A4, c4, hv4⟩ : ∃ A4 c4, v4 = .slice A4 (n + 1) c4 := by
        obtain ⟨A4, c4, rows4, hv4, _⟩ := L4
        exact ⟨A4, c4, by rw [hv4, List.length_append, List.length_singleton, ← HN.out]⟩
      subst hv4
      have H4 := Lib.hid L4
      clear L4
      refine wp_append_eq (.tmp 20) (.tmp 22) _ _ _ rfl rfl rfl rfl hrun ?_
      refine Shut.out hK _ _ hb4 (fun _ => ?_)
      clear hK K hrun
      try simp only [List.getElem_toArray, List.getElem_cons_succ, List.getElem_cons_zero, Act.put, List.setIfInBounds_toArray, List.set_cons_zero, List.set_cons_succ]
      refine wpAnyH_take (i := 8) (v := .slice A4 (n + 1) c4) rfl (by kernel_rfl) (by kernel_rfl) (by kernel_rfl) (fun _ _ _ h => h) (Or.inl ⟨by kernel_rfl, fun w' hSw => ?_⟩) hb4 ?_
      · go_simp
      try simp only [List.getElem_toArray, List.getElem_cons_succ, List.getElem_cons_zero, Act.put, List.setIfInBounds_toArray, List.set_cons_zero, List.set_cons_succ]
      refine wpAnyH_take (i := 9) (v := .int .i64 ((n : Int) + 1)) rfl (by kernel_rfl) (by kernel_rfl) (by kernel_rfl) (fun _ _ _ h => h) (Or.inl ⟨by kernel_rfl, fun w' hSw => ?_⟩) hb4 ?_
      · go_simp
      try simp only [List.getElem_toArray, List.getElem_cons_succ, List.getElem_cons_zero, Act.put, List.setIfInBounds_toArray, List.set_cons_zero, List.set_cons_succ]
      refine wpAnyH_take (i := 10) (v := .int .i64 0) rfl (by kernel_rfl) (by kernel_rfl) (by kernel_rfl) (fun _ _ _ h => h) (Or.inl ⟨by kernel_rfl, fun w' hSw => ?_⟩) hb4 ?_
      · go_simp
      try simp only [List.getElem_toArray, List.getElem_cons_succ, List.getElem_cons_zero, Act.put, List.setIfInBounds_toArray, List.set_cons_zero, List.set_cons_succ]
      refine wpAnyH_done (by kernel_rfl) ?_ _
      go_wp2_with (fail)
      go_meet
      exact ⟨_, _, rfl, rfl, rfl, H4.out, hb4⟩
  case rest =>
    obtain ⟨A4, c4, rfl, rfl, rfl, L4, b4⟩ := hcut
    have hb0 := HQ.out.2.2.2.2.2.2.1
    have hret : RPut13 M (.slice A n cap) l c w (.returned (.tuple #[.slice A4 (n + 1) c4, .int .i64 ((n : Int) + 1), .int .i64 0])) wc :=
      ⟨_, _, _, rfl, hb0.trans (b4.mono hb0.size), .inl ⟨_, HK.out.2.2.1, rfl, .inr L4⟩⟩
    clear L4 b4 hb0
    go_wp2_with (fail)
    go_ret3
    exact hret

theorem rput13 (w : World) (M : Nat → Prop) (lo hi pa pb : Nat) (v : Value) (l : List Cmd) (h : LedAt w lo hi v l) (hhi : hi ≤ w.heap.size) (c : Cmd) (pv : Value) (hp : IntsAt w pa pb pv c.parts) (hpb : pb ≤ w.heap.size) (hpM : ∀ m, M m → m < pa ∨ pb ≤ m) (hM : ∀ m, M m → m < w.heap.size) :
    Calls Tryd.prog 156 #[v, .agg (c.cells pv).toArray] w (RPut13 M v l c w) := by
  rcases idxN_cases l c.idn c.idb c.ids with hm | ⟨i, hi', _⟩
  · by_cases hl : 4096 ≤ l.length
    · exact rput_full w M lo hi pa pb v l h hhi c pv hp hpb hpM hM hm hl
    · exact rput_more w M lo hi pa pb v l h hhi c pv hp hpb hpM hM hm (by omega)
  · exact rput_found w M lo hi pa pb v l h hhi c pv hp hpb hpM hM (by omega)
end Go.Proofs.YtnlncfjibbdimaaDoor

namespace Go.Proofs.YtnlncfjibbdimaaDoor
open Go.RowKit
set_option linter.unusedSimpArgs false
set_option linter.unusedVariables false

/-- The document's round: its twenty-eight cells. -/
def Rnd.mcells (r : Rnd) (n : Nat) (pv hv lv : Value) : List Value :=
  [.int .i64 n, .int .i64 r.cmd.kind, .int .i64 r.cmd.idn, .int .i64 r.cmd.idb, .int .i64 r.cmd.ids, .string r.cmd.bucket, .string r.cmd.key, .int .i64 r.cmd.upn, .int .i64 r.cmd.upb, .int .i64 r.cmd.ups, .int .i64 r.cmd.pbn, .int .i64 r.cmd.pbb, .int .i64 r.cmd.pbs,
    .int .i64 r.cmd.psize, .string r.cmd.etag, .int .i64 r.cmd.part, pv, .int .i64 r.cmd.time, .int .i64 r.cmd.days, .bool r.reads, .int .i64 r.br, .int .i64 r.bn, .int .i64 r.stage, hv, .int .i64 r.nr, .int .i64 r.nn, lv, .int .i64 r.begun]
/-- The document's round at block g; hs: who is heard; M: the blocks that change. -/
structure MAt (w : World) (M : Nat → Prop) (g n : Nat) (hs : List Int) (r : Rnd) (pv hv lv : Value) : Prop where
  row : Blk w g 204 (r.mcells n pv hv lv).toArray
  in_ : M g
  hrd : w.ownsRow 0 3 1 hv hs.length (ints hs)
  hM : ∀ q, hv.ownBlock = some q → M q ∧ q ≠ g
  parts : IntsP w M pv r.cmd.parts
  led : LedP w M lv r.led
  sz : n ≤ 16

set_option maxRecDepth 100000 in
set_option maxHeartbeats 1600000 in
theorem rnew63_num (w : World) (n : Int) (c : Cmd) (pv : Value) (reads : Bool) (hn : n < 1 ∨ 16 < n) :
    Calls Tryd.prog 63 #[.int .i64 n, .agg (c.cells pv).toArray, .bool reads] w fun e w' => e = .returned (.tuple #[.pointer none, .int .i64 2]) ∧ Below w.heap.size w w' := by
  have bA : Below w.heap.size w (w.alloc (.cells (c.cells pv).toArray 81)) := (Below.refl _ _).alloc (Nat.le_refl _) _
  have HB := Lib.hid bA
  clear bA
  by_cases h1 : n < 1
  · clear hn
    go_enter Tryd.func63, Tryd.ntmps63
    go_wp2_with (fail)
    go_ret2
    exact ⟨rfl, HB.out⟩
  · have h2 : n > 16 := by omega
    clear hn
    go_enter Tryd.func63, Tryd.ntmps63
    go_wp2_with (fail)
    go_ret2
    exact ⟨rfl, HB.out⟩

set_option maxRecDepth 100000 in
set_option maxHeartbeats 1600000 in
theorem rnew63_state (w : World) (n : Nat) (c : Cmd) (hz : c.Sized) (pv : Value) (lo hi : Nat) (hp : IntsAt w lo hi pv c.parts) (hhi : hi ≤ w.heap.size) (hn : 1 ≤ n ∧ n ≤ 16) (hc : chkB c = false) :
    Calls Tryd.prog 63 #[.int .i64 n, .agg (c.cells pv).toArray, .bool false] w fun e w' => e = .returned (.tuple #[.pointer none, .int .i64 18]) ∧ Below w.heap.size w w' := by
  have bA : Below w.heap.size w (w.alloc (.cells (c.cells pv).toArray 81)) := (Below.refl _ _).alloc (Nat.le_refl _) _
  have hX := Blk.new w 81 (c.cells pv).toArray
  have k46 := inForm_any c hz (w.alloc (.cells (c.cells pv).toArray 81)) lo hi pv (hp.fr (Fr.of_below bA (fun _ => False)) hhi (fun _ _ _ h => h)) (Nat.le_trans hhi bA.size)
  rw [in_chk, hc] at k46
  have HB := Lib.hid (And.intro bA k46)
  have n1 : ¬ (n : Int) < 1 := by omega
  have n2 : ¬ (n : Int) > 16 := by omega
  have hld := run_loadVar_mid (P := Tryd.prog) _ w.heap.size 0 81 (c.cells pv) _ hX.range Tryd.underlying81 rfl cmd_info
  simp [go_sem] at hld
  clear bA k46 hc hn hX hp
  go_enter Tryd.func63, Tryd.ntmps63
  go_wp2_with (first
    | (go_at_call 46; refine HB.out.2.mono ?_; rintro e w2 ⟨rfl, b2⟩; have H2 := Lib.hid (HB.out.1.trans (b2.mono HB.out.1.size)); clear b2)
    | fail)
  go_ret2
  exact ⟨rfl, H2.out⟩

/-- What the document's New makes. -/
def RNew13 (M : Nat → Prop) (n : Nat) (c : Cmd) (reads : Bool) (pv : Value) (w : World) (e : Ending) (w' : World) : Prop :=
  ∃ g, e = .returned (.tuple #[.pointer (some ⟨g, 0, none⟩), .int .i64 0]) ∧ w.heap.size ≤ g ∧ g < w'.heap.size ∧
    MAt w' (fun k => M k ∨ k = g) g n [] ⟨c, reads, 0, 0, 0, 0, 0, [], 0⟩ pv (.slice none 0 0) (.slice none 0 0) ∧ Below w.heap.size w w'
theorem RNew13.of {w W : World} {M : Nat → Prop} {n : Nat} {c : Cmd} {reads : Bool} {pA : Option Addr} {pc : Nat} (hb : Below w.heap.size w W) (hp : IntsP w M (.slice pA c.parts.length pc) c.parts) (hn : n ≤ 16) {e : Ending}
    (he : e = .returned (.tuple #[.pointer (some ⟨W.heap.size, 0, none⟩), .int .i64 0])) : RNew13 M n c reads (.slice pA c.parts.length pc) w e (W.alloc (.cells ((⟨c, reads, 0, 0, 0, 0, 0, [], 0⟩ : Rnd).mcells n (.slice pA c.parts.length pc) (.slice none 0 0) (.slice none 0 0)).toArray 204)) := by
  have hs := hb.size
  have hb2 := hb.alloc hs (.cells ((⟨c, reads, 0, 0, 0, 0, 0, [], 0⟩ : Rnd).mcells n (.slice pA c.parts.length pc) (.slice none 0 0) (.slice none 0 0)).toArray 204)
  exact ⟨W.heap.size, he, hs, by simp, ⟨Blk.new W 204 _, .inr rfl, World.ownsRow_nil _ _ _ _, fun q hq => by simp [Value.ownBlock] at hq, (hp.grow (M' := fun k => M k ∨ k = W.heap.size) (fun m hm => by rcases hm with h | h; exact .inl h; exact .inr (by omega))).fr (Fr.of_below hb2 (fun _ => False)) (Nat.le_refl _) (fun _ h => h.elim), LedP.nil_ _ _, hn⟩, hb2⟩

set_option maxRecDepth 100000 in
set_option maxHeartbeats 1600000 in
theorem rnew63_reads (w : World) (M : Nat → Prop) (n : Nat) (c : Cmd) (pv : Value) (lo hi : Nat) (hp : IntsAt w lo hi pv c.parts) (hhi : hi ≤ w.heap.size) (hpM : ∀ m, M m → m < lo ∨ hi ≤ m) (hn : 1 ≤ n ∧ n ≤ 16) :
    Calls Tryd.prog 63 #[.int .i64 n, .agg (c.cells pv).toArray, .bool true] w (RNew13 M n c true pv w) := by
  have bA : Below w.heap.size w (w.alloc (.cells (c.cells pv).toArray 81)) := (Below.refl _ _).alloc (Nat.le_refl _) _
  have hX := Blk.new w 81 (c.cells pv).toArray
  have n1 : ¬ (n : Int) < 1 := by omega
  have n2 : ¬ (n : Int) > 16 := by omega
  obtain ⟨pA, pc, hpv⟩ : ∃ pA pc, pv = .slice pA c.parts.length pc := by
    obtain ⟨A1, c1, q1, _⟩ := hp
    exact ⟨A1, c1, q1⟩
  subst hpv
  have HB := Lib.hid (And.intro bA (And.intro hX (And.intro hp hn)))
  clear bA hX hp hn
  go_enter Tryd.func63, Tryd.ntmps63
  go_upto_region 5 with (fail)
  have hb : Below w.heap.size w (w.alloc (.cells (c.cells (.slice pA c.parts.length pc)).toArray 81)) := HB.out.1
  have hX2 : Blk (w.alloc (.cells (c.cells (.slice pA c.parts.length pc)).toArray 81)) w.heap.size 81 (c.cells (.slice pA c.parts.length pc)).toArray := HB.out.2.1
  have hr : World.rangeAt (w.alloc (.cells (c.cells (.slice pA c.parts.length pc)).toArray 81)) w.heap.size 0 [.int .i64 c.kind, .int .i64 c.idn, .int .i64 c.idb, .int .i64 c.ids, .string c.bucket, .string c.key, .int .i64 c.upn, .int .i64 c.upb, .int .i64 c.ups, .int .i64 c.pbn, .int .i64 c.pbb, .int .i64 c.pbs, .int .i64 c.psize, .string c.etag, .int .i64 c.part, .slice pA c.parts.length pc, .int .i64 c.time, .int .i64 c.days] := hX2.range
  have HR := Lib.hid (And.intro hb hX2)
  clear hb hX2
  go_wp2_with (first
    | ((with_reducible refine law_load 81 (.tmp 4) w.heap.size 0 [.int .i64 c.kind, .int .i64 c.idn, .int .i64 c.idb, .int .i64 c.ids, .string c.bucket, .string c.key, .int .i64 c.upn, .int .i64 c.upb, .int .i64 c.ups, .int .i64 c.pbn, .int .i64 c.pbb, .int .i64 c.pbs, .int .i64 c.psize, .string c.etag, .int .i64 c.part, .slice pA c.parts.length pc, .int .i64 c.time, .int .i64 c.days] ?_ hr Tryd.underlying81 ?_ ?_ ?_); rfl; rfl; exact cmd_info)
    | fail)
  go_ret2
  exact RNew13.of HR.out.1 (IntsP.of HB.out.2.2.1 hhi hpM) HB.out.2.2.2.2 (by simp)

set_option maxRecDepth 100000 in
set_option maxHeartbeats 1600000 in
theorem rnew63_cmd (w : World) (M : Nat → Prop) (n : Nat) (c : Cmd) (pv : Value) (lo hi : Nat) (hp : IntsAt w lo hi pv c.parts) (hhi : hi ≤ w.heap.size) (hpM : ∀ m, M m → m < lo ∨ hi ≤ m) (hn : 1 ≤ n ∧ n ≤ 16) (hz : c.Sized) (hc : chkB c = true) :
    Calls Tryd.prog 63 #[.int .i64 n, .agg (c.cells pv).toArray, .bool false] w (RNew13 M n c false pv w) := by
  have bA : Below w.heap.size w (w.alloc (.cells (c.cells pv).toArray 81)) := (Below.refl _ _).alloc (Nat.le_refl _) _
  have hX := Blk.new w 81 (c.cells pv).toArray
  have n1 : ¬ (n : Int) < 1 := by omega
  have n2 : ¬ (n : Int) > 16 := by omega
  have k46 := inForm_any c hz (w.alloc (.cells (c.cells pv).toArray 81)) lo hi pv (hp.fr (Fr.of_below bA (fun _ => False)) hhi (fun _ _ _ h => h)) (Nat.le_trans hhi bA.size)
  rw [in_chk, hc] at k46
  have HC := Lib.hid k46
  have hld := run_loadVar_mid (P := Tryd.prog) _ w.heap.size 0 81 (c.cells pv) _ hX.range Tryd.underlying81 rfl cmd_info
  simp [go_sem] at hld
  clear k46 hc
  obtain ⟨pA, pc, hpv⟩ : ∃ pA pc, pv = .slice pA c.parts.length pc := by
    obtain ⟨A1, c1, q1, _⟩ := hp
    exact ⟨A1, c1, q1⟩
  subst hpv
  have HB := Lib.hid (And.intro bA (And.intro hX (And.intro hp hn)))
  clear bA hX hp hn
  go_enter Tryd.func63, Tryd.ntmps63
  go_upto_region 5 with (first
    | (go_at_call 46; refine HC.out.mono ?_; rintro e w2 ⟨rfl, b2⟩; have H2 := Lib.hid b2; clear b2)
    | fail)
  have hb : Below w.heap.size w w2 := HB.out.1.trans (H2.out.mono HB.out.1.size)
  have hX2 : Blk w2 w.heap.size 81 (c.cells (.slice pA c.parts.length pc)).toArray := HB.out.2.1.below H2.out HB.out.2.1.lt
  clear hld
  have hr : World.rangeAt w2 w.heap.size 0 [.int .i64 c.kind, .int .i64 c.idn, .int .i64 c.idb, .int .i64 c.ids, .string c.bucket, .string c.key, .int .i64 c.upn, .int .i64 c.upb, .int .i64 c.ups, .int .i64 c.pbn, .int .i64 c.pbb, .int .i64 c.pbs, .int .i64 c.psize, .string c.etag, .int .i64 c.part, .slice pA c.parts.length pc, .int .i64 c.time, .int .i64 c.days] := hX2.range
  have HR := Lib.hid (And.intro hb hX2)
  clear hb hX2
  go_wp2_with (first
    | ((with_reducible refine law_load 81 (.tmp 4) w.heap.size 0 [.int .i64 c.kind, .int .i64 c.idn, .int .i64 c.idb, .int .i64 c.ids, .string c.bucket, .string c.key, .int .i64 c.upn, .int .i64 c.upb, .int .i64 c.ups, .int .i64 c.pbn, .int .i64 c.pbb, .int .i64 c.pbs, .int .i64 c.psize, .string c.etag, .int .i64 c.part, .slice pA c.parts.length pc, .int .i64 c.time, .int .i64 c.days] ?_ hr Tryd.underlying81 ?_ ?_ ?_); rfl; rfl; exact cmd_info)
    | fail)
  go_ret2
  exact RNew13.of HR.out.1 (IntsP.of HB.out.2.2.1 hhi hpM) HB.out.2.2.2.2 rfl
end Go.Proofs.YtnlncfjibbdimaaDoor

namespace Go.Proofs.YtnlncfjibbdimaaDoor
open Go.RowKit
set_option linter.unusedSimpArgs false
set_option linter.unusedVariables false

theorem MRow.began {W : World} {g n : Nat} {r : Rnd} {pv hv lv : Value} (h : Blk W g 204 (r.mcells n pv hv lv).toArray) (br bn : Int) :
    Blk (((((((W.setCell ⟨g, 20, none⟩ (.int .i64 br)).setCell ⟨g, 21, none⟩ (.int .i64 bn)).setCell ⟨g, 22, none⟩ (.int .i64 1)).setCell ⟨g, 23, none⟩ (.slice none 0 0)).setCell ⟨g, 24, none⟩ (.int .i64 0)).setCell ⟨g, 25, none⟩ (.int .i64 0)).setCell ⟨g, 26, none⟩ (.slice none 0 0)) g 204
      (({ r with br := br, bn := bn, stage := 1, nr := 0, nn := 0, led := [] } : Rnd).mcells n pv (.slice none 0 0) (.slice none 0 0)).toArray := by
  have h1 : Blk (W.setCell ⟨g, 20, none⟩ (.int .i64 br)) g 204 (({ r with br := br } : Rnd).mcells n pv hv lv).toArray := h.set_ 20 _
  have h2 : Blk ((W.setCell ⟨g, 20, none⟩ (.int .i64 br)).setCell ⟨g, 21, none⟩ (.int .i64 bn)) g 204 (({ r with br := br, bn := bn } : Rnd).mcells n pv hv lv).toArray := h1.set_ 21 _
  have h3 : Blk (((W.setCell ⟨g, 20, none⟩ (.int .i64 br)).setCell ⟨g, 21, none⟩ (.int .i64 bn)).setCell ⟨g, 22, none⟩ (.int .i64 1)) g 204 (({ r with br := br, bn := bn, stage := 1 } : Rnd).mcells n pv hv lv).toArray := h2.set_ 22 _
  have h4 : Blk ((((W.setCell ⟨g, 20, none⟩ (.int .i64 br)).setCell ⟨g, 21, none⟩ (.int .i64 bn)).setCell ⟨g, 22, none⟩ (.int .i64 1)).setCell ⟨g, 23, none⟩ (.slice none 0 0)) g 204 (({ r with br := br, bn := bn, stage := 1 } : Rnd).mcells n pv (.slice none 0 0) lv).toArray := h3.set_ 23 _
  have h5 : Blk (((((W.setCell ⟨g, 20, none⟩ (.int .i64 br)).setCell ⟨g, 21, none⟩ (.int .i64 bn)).setCell ⟨g, 22, none⟩ (.int .i64 1)).setCell ⟨g, 23, none⟩ (.slice none 0 0)).setCell ⟨g, 24, none⟩ (.int .i64 0)) g 204 (({ r with br := br, bn := bn, stage := 1, nr := 0 } : Rnd).mcells n pv (.slice none 0 0) lv).toArray := h4.set_ 24 _
  have h6 : Blk ((((((W.setCell ⟨g, 20, none⟩ (.int .i64 br)).setCell ⟨g, 21, none⟩ (.int .i64 bn)).setCell ⟨g, 22, none⟩ (.int .i64 1)).setCell ⟨g, 23, none⟩ (.slice none 0 0)).setCell ⟨g, 24, none⟩ (.int .i64 0)).setCell ⟨g, 25, none⟩ (.int .i64 0)) g 204 (({ r with br := br, bn := bn, stage := 1, nr := 0, nn := 0 } : Rnd).mcells n pv (.slice none 0 0) lv).toArray := h5.set_ 25 _
  exact h6.set_ 26 _

set_option maxRecDepth 100000 in
set_option maxHeartbeats 1600000 in
theorem rbegin_late (w : World) (M : Nat → Prop) (g n : Nat) (hs : List Int) (r : Rnd) (pv hv lv : Value) (h : MAt w M g n hs r pv hv lv) (br bn : Int) (hst : r.stage > 2) :
    Calls Tryd.prog 123 #[.pointer (some ⟨g, 0, none⟩), .agg #[.int .i64 br, .int .i64 bn]] w fun e w' => e = .returned (.int .i64 18) ∧ Below w.heap.size w w' := by
  have bA : Below w.heap.size w (w.alloc (.cells #[.int .i64 br, .int .i64 bn] 23)) := (Below.refl _ _).alloc (Nat.le_refl _) _
  have c22 : (w.alloc (.cells #[.int .i64 br, .int .i64 bn] 23)).cell? ⟨g, 22, none⟩ = some (.int .i64 r.stage) := (h.row.below bA h.row.lt).cell 22
  have HB := Lib.hid bA
  clear h bA
  go_enter Tryd.func123, Tryd.ntmps123
  go_wp2_with (fail)
  go_ret
  exact ⟨rfl, HB.out⟩

set_option maxRecDepth 100000 in
set_option maxHeartbeats 1600000 in
theorem rbegin_illegal (w : World) (M : Nat → Prop) (g n : Nat) (hs : List Int) (r : Rnd) (pv hv lv : Value) (h : MAt w M g n hs r pv hv lv) (br bn : Int) (hst : r.stage ≤ 2) (hl : lg br bn = false) :
    Calls Tryd.prog 123 #[.pointer (some ⟨g, 0, none⟩), .agg #[.int .i64 br, .int .i64 bn]] w fun e w' => e = .returned (.int .i64 12) ∧ Below w.heap.size w w' := by
  have bA : Below w.heap.size w (w.alloc (.cells #[.int .i64 br, .int .i64 bn] 23)) := (Below.refl _ _).alloc (Nat.le_refl _) _
  have c22 : (w.alloc (.cells #[.int .i64 br, .int .i64 bn] 23)).cell? ⟨g, 22, none⟩ = some (.int .i64 r.stage) := (h.row.below bA h.row.lt).cell 22
  have k57 : ∀ W, Calls Tryd.prog 57 #[.agg #[.int .i64 br, .int .i64 bn]] W fun e w' => e = .returned (.bool false) ∧ Below W.heap.size W w' := fun W => by rw [← hl]; exact rlegal_any br bn W
  have hs' : ¬ r.stage > 2 := by omega
  go_enter Tryd.func123, Tryd.ntmps123
  go_upto_region 3 with (fail)
  refine wp_letter (fun W => Below w.heap.size w W ∧ Blk W w.heap.size 23 #[.int .i64 br, .int .i64 bn]) ⟨bA, Blk.new w 23 _⟩ ?_
  rintro W ⟨hb, hX⟩
  obtain ⟨x, hx⟩ : ∃ x, x = w.heap.size := ⟨_, rfl⟩
  rw [← hx] at hX ⊢
  have hxr : World.rangeAt W x 0 [.int .i64 br, .int .i64 bn] := Blk.range (cs := [.int .i64 br, .int .i64 bn]) hX
  have cX : ∀ d os i, (Go.Sort.grow (redrawn W d) os).cell? ⟨x, i, none⟩ = (#[.int .i64 br, .int .i64 bn] : Array Value)[i]? := fun d os => (hX.below (below_regrown W d os) hX.lt).cell
  have hR := h.row.below hb h.row.lt
  have c20 : ∀ d os, (Go.Sort.grow (redrawn W d) os).cell? ⟨g, 20, none⟩ = some (.int .i64 r.br) := fun d os => (hR.below (below_regrown W d os) hR.lt).cell 20
  have c21 : ∀ d os, (Go.Sort.grow (redrawn W d) os).cell? ⟨g, 21, none⟩ = some (.int .i64 r.bn) := fun d os => (hR.below (below_regrown W d os) hR.lt).cell 21
  have hgx : g ≠ x := by have := h.row.lt; omega
  have HW := Lib.hid (And.intro hb (And.intro hR (And.intro hX (And.intro hx h))))
  clear hl h hR bA hX hb hx c22 hxr
  try simp only [List.cons_append, List.nil_append, List.append_eq]
  refine wp_region_quiet_cheap (by kernel_rfl) (by kernel_rfl) (by kernel_rfl) (by kernel_rfl) ?_
  repeat (go_big_quiet_step (first | (with_reducible exact Calls.regrown_of (k57 _))))
  refine wpQuiet_nil ?_
  intro _ hw'
  obtain ⟨⟨dq, osq⟩, hw''⟩ := hw'
  subst hw''
  have hfin := HW.out.1.trans ((below_regrown W dq osq).mono HW.out.1.size)
  have HF := Lib.hid hfin
  clear hfin
  go_wp2_with (fail)
  go_ret
  exact ⟨rfl, HF.out⟩

set_option maxRecDepth 100000 in
set_option maxHeartbeats 1600000 in
theorem rbegin_low (w : World) (M : Nat → Prop) (g n : Nat) (hs : List Int) (r : Rnd) (pv hv lv : Value) (h : MAt w M g n hs r pv hv lv) (br bn : Int) (hst : r.stage ≤ 2) (hl : lg br bn = true) (ha : ab br bn r.br r.bn = false) :
    Calls Tryd.prog 123 #[.pointer (some ⟨g, 0, none⟩), .agg #[.int .i64 br, .int .i64 bn]] w fun e w' => e = .returned (.int .i64 12) ∧ Below w.heap.size w w' := by
  have bA : Below w.heap.size w (w.alloc (.cells #[.int .i64 br, .int .i64 bn] 23)) := (Below.refl _ _).alloc (Nat.le_refl _) _
  have c22 : (w.alloc (.cells #[.int .i64 br, .int .i64 bn] 23)).cell? ⟨g, 22, none⟩ = some (.int .i64 r.stage) := (h.row.below bA h.row.lt).cell 22
  have k57 : ∀ W, Calls Tryd.prog 57 #[.agg #[.int .i64 br, .int .i64 bn]] W fun e w' => e = .returned (.bool true) ∧ Below W.heap.size W w' := fun W => by rw [← hl]; exact rlegal_any br bn W
  have k24 : ∀ W, Calls Tryd.prog 24 #[.agg #[.int .i64 br, .int .i64 bn], .agg #[.int .i64 r.br, .int .i64 r.bn]] W fun e w' => e = .returned (.bool false) ∧ Below W.heap.size W w' := fun W => by rw [← ha]; exact rabove_any br bn r.br r.bn W
  have hs' : ¬ r.stage > 2 := by omega
  go_enter Tryd.func123, Tryd.ntmps123
  go_upto_region 3 with (fail)
  refine wp_letter (fun W => Below w.heap.size w W ∧ Blk W w.heap.size 23 #[.int .i64 br, .int .i64 bn]) ⟨bA, Blk.new w 23 _⟩ ?_
  rintro W ⟨hb, hX⟩
  obtain ⟨x, hx⟩ : ∃ x, x = w.heap.size := ⟨_, rfl⟩
  rw [← hx] at hX ⊢
  have hxr : World.rangeAt W x 0 [.int .i64 br, .int .i64 bn] := Blk.range (cs := [.int .i64 br, .int .i64 bn]) hX
  have cX : ∀ d os i, (Go.Sort.grow (redrawn W d) os).cell? ⟨x, i, none⟩ = (#[.int .i64 br, .int .i64 bn] : Array Value)[i]? := fun d os => (hX.below (below_regrown W d os) hX.lt).cell
  have hR := h.row.below hb h.row.lt
  have c20 : ∀ d os, (Go.Sort.grow (redrawn W d) os).cell? ⟨g, 20, none⟩ = some (.int .i64 r.br) := fun d os => (hR.below (below_regrown W d os) hR.lt).cell 20
  have c21 : ∀ d os, (Go.Sort.grow (redrawn W d) os).cell? ⟨g, 21, none⟩ = some (.int .i64 r.bn) := fun d os => (hR.below (below_regrown W d os) hR.lt).cell 21
  have hgx : g ≠ x := by have := h.row.lt; omega
  have HW := Lib.hid (And.intro hb (And.intro hR (And.intro hX (And.intro hx h))))
  clear hl ha h hR bA hX hb hx c22 hxr
  try simp only [List.cons_append, List.nil_append, List.append_eq]
  refine wp_region_quiet_cheap (by kernel_rfl) (by kernel_rfl) (by kernel_rfl) (by kernel_rfl) ?_
  repeat (go_big_quiet_step (first | (with_reducible exact Calls.regrown_of (k57 _)) | (with_reducible exact Calls.regrown_of (k24 _))))
  refine wpQuiet_nil ?_
  intro _ hw'
  obtain ⟨⟨dq, osq⟩, hw''⟩ := hw'
  subst hw''
  have hfin := HW.out.1.trans ((below_regrown W dq osq).mono HW.out.1.size)
  have HF := Lib.hid hfin
  clear hfin
  go_wp2_with (fail)
  go_ret
  exact ⟨rfl, HF.out⟩

set_option maxRecDepth 100000 in
set_option maxHeartbeats 1600000 in
theorem rbegin_good (w : World) (M : Nat → Prop) (g n : Nat) (hs : List Int) (r : Rnd) (pv hv lv : Value) (h : MAt w M g n hs r pv hv lv) (br bn : Int) (hst : r.stage ≤ 2) (hl : lg br bn = true) (ha : ab br bn r.br r.bn = true) :
    Calls Tryd.prog 123 #[.pointer (some ⟨g, 0, none⟩), .agg #[.int .i64 br, .int .i64 bn]] w fun e w' => e = .returned (.int .i64 0) ∧ MAt w' M g n [] { r with br := br, bn := bn, stage := 1, nr := 0, nn := 0, led := [], begun := wrap64 (r.begun + 1) } pv (.slice none 0 0) (.slice none 0 0) ∧ Fr w.heap.size (fun k => k = g) w w' := by
  have bA : Below w.heap.size w (w.alloc (.cells #[.int .i64 br, .int .i64 bn] 23)) := (Below.refl _ _).alloc (Nat.le_refl _) _
  have c22 : (w.alloc (.cells #[.int .i64 br, .int .i64 bn] 23)).cell? ⟨g, 22, none⟩ = some (.int .i64 r.stage) := (h.row.below bA h.row.lt).cell 22
  have k57 : ∀ W, Calls Tryd.prog 57 #[.agg #[.int .i64 br, .int .i64 bn]] W fun e w' => e = .returned (.bool true) ∧ Below W.heap.size W w' := fun W => by rw [← hl]; exact rlegal_any br bn W
  have k24 : ∀ W, Calls Tryd.prog 24 #[.agg #[.int .i64 br, .int .i64 bn], .agg #[.int .i64 r.br, .int .i64 r.bn]] W fun e w' => e = .returned (.bool true) ∧ Below W.heap.size W w' := fun W => by rw [← ha]; exact rabove_any br bn r.br r.bn W
  have hs' : ¬ r.stage > 2 := by omega
  go_enter Tryd.func123, Tryd.ntmps123
  go_upto_region 3 with (fail)
  refine wp_letter (fun W => Below w.heap.size w W ∧ Blk W w.heap.size 23 #[.int .i64 br, .int .i64 bn]) ⟨bA, Blk.new w 23 _⟩ ?_
  rintro W ⟨hb, hX⟩
  obtain ⟨x, hx⟩ : ∃ x, x = w.heap.size := ⟨_, rfl⟩
  rw [← hx] at hX ⊢
  have hxr : World.rangeAt W x 0 [.int .i64 br, .int .i64 bn] := Blk.range (cs := [.int .i64 br, .int .i64 bn]) hX
  have cX : ∀ d os i, (Go.Sort.grow (redrawn W d) os).cell? ⟨x, i, none⟩ = (#[.int .i64 br, .int .i64 bn] : Array Value)[i]? := fun d os => (hX.below (below_regrown W d os) hX.lt).cell
  have hR := h.row.below hb h.row.lt
  have c20 : ∀ d os, (Go.Sort.grow (redrawn W d) os).cell? ⟨g, 20, none⟩ = some (.int .i64 r.br) := fun d os => (hR.below (below_regrown W d os) hR.lt).cell 20
  have c21 : ∀ d os, (Go.Sort.grow (redrawn W d) os).cell? ⟨g, 21, none⟩ = some (.int .i64 r.bn) := fun d os => (hR.below (below_regrown W d os) hR.lt).cell 21
  have hgx : g ≠ x := by have := h.row.lt; omega
  have HW := Lib.hid (And.intro hb (And.intro hR (And.intro hX (And.intro hx h))))
  clear hl ha h hR bA hX hb hx c22 hxr
  try simp only [List.cons_append, List.nil_append, List.append_eq]
  refine wp_region_quiet_cheap (by kernel_rfl) (by kernel_rfl) (by kernel_rfl) (by kernel_rfl) ?_
  repeat (go_big_quiet_step (first | (with_reducible exact Calls.regrown_of (k57 _)) | (with_reducible exact Calls.regrown_of (k24 _))))
  refine wpQuiet_nil ?_
  intro _ hw'
  obtain ⟨⟨dq, osq⟩, hw''⟩ := hw'
  subst hw''
  have hgq := below_regrown W dq osq
  have R1 := HW.out.2.1.below hgq HW.out.2.1.lt
  have X1 := HW.out.2.2.1.below hgq HW.out.2.2.1.lt
  have F1 : Below w.heap.size w (Go.Sort.grow (redrawn W dq) osq) := HW.out.1.trans (hgq.mono HW.out.1.size)
  have rc := R1.cell
  have rf := R1.frozen
  simp only [Rnd.mcells] at rc
  have xc := X1.cell
  have H2 := Lib.hid (And.intro R1 F1)
  clear hgq R1 X1 F1 cX c20 c21
  go_upto_region 6 with (fail)
  obtain ⟨W1, hW1⟩ : ∃ W1, W1 = Go.Sort.grow (redrawn W dq) osq := ⟨_, rfl⟩
  rw [← hW1] at H2 ⊢
  clear rc rf xc hW1
  refine wp_letter (fun W3 => Blk W3 g 204 (({ r with br := br, bn := bn, stage := 1, nr := 0, nn := 0, led := [] } : Rnd).mcells n pv (.slice none 0 0) (.slice none 0 0)).toArray ∧ Fr W1.heap.size (fun k => k = g) W1 W3)
    ⟨MRow.began H2.out.1 br bn, ((((((((Fr.refl W1.heap.size (fun k => k = g) W1).setCell (p := ⟨g, 20, none⟩) (.inl rfl) _).setCell (p := ⟨g, 21, none⟩) (.inl rfl) _).setCell (p := ⟨g, 22, none⟩) (.inl rfl) _).setCell (p := ⟨g, 23, none⟩) (.inl rfl) _).setCell (p := ⟨g, 24, none⟩) (.inl rfl) _).setCell (p := ⟨g, 25, none⟩) (.inl rfl) _).setCell (p := ⟨g, 26, none⟩) (.inl rfl) _)⟩ ?_
  rintro W3 ⟨R3, F3⟩
  have c27 : W3.cell? ⟨g, 27, none⟩ = some (.int .i64 r.begun) := R3.cell 27
  have f27 := R3.frozen 27
  have R4 : Blk (W3.setCell ⟨g, 27, none⟩ (.int .i64 (wrap64 (r.begun + 1)))) g 204 (({ r with br := br, bn := bn, stage := 1, nr := 0, nn := 0, led := [], begun := wrap64 (r.begun + 1) } : Rnd).mcells n pv (.slice none 0 0) (.slice none 0 0)).toArray := R3.set_ 27 _
  have F4 : Fr w.heap.size (fun k => k = g) w (W3.setCell ⟨g, 27, none⟩ (.int .i64 (wrap64 (r.begun + 1)))) :=
    ((Fr.of_below H2.out.2 _).trans (F3.mono H2.out.2.size (fun _ _ h => h))).setCell (p := ⟨g, 27, none⟩) (.inl rfl) _
  have H4 := Lib.hid (And.intro R4 F4)
  clear R3 F3 R4 F4
  go_wp2_with (fail)
  go_ret
  have hm := HW.out.2.2.2.2
  exact ⟨rfl, ⟨H4.out.1, hm.in_, World.ownsRow_nil _ _ _ _, fun q hq => by simp [Value.ownBlock] at hq, hm.parts.fr H4.out.2 (Nat.le_refl _) (fun k hk => by rw [hk]; exact hm.in_), LedP.nil_ _ _, hm.sz⟩, H4.out.2⟩
end Go.Proofs.YtnlncfjibbdimaaDoor

namespace Go.Proofs.YtnlncfjibbdimaaDoor
open Go.RowKit
set_option linter.unusedSimpArgs false
set_option linter.unusedVariables false

/-- Does an answer count? -/
def fitsM (r : Rnd) (n : Nat) (hs : List Int) (stage from_ br bn : Int) : Prop := r.stage = stage ∧ (br = r.br ∧ bn = r.bn) ∧ 0 ≤ from_ ∧ from_ < n ∧ from_ ∉ hs
theorem eqb23 (a b a' b' : Int) (w : World) : (binOp .eql 23 (.agg #[.int .i64 a, .int .i64 b]) (.agg #[.int .i64 a', .int .i64 b'])).run Tryd.prog w = .ok (.bool (decide (a = a') && decide (b = b'))) w := by
  rw [run_eql_struct, show 10000 = 9999 + 1 from rfl, run_equalIn_struct w 9999 23 _ _ fbh23 sth23]
  simp only [Program.fieldsOf, Tryd.underlying23]
  simp [Op.eqFields, go_sem, part]
  by_cases h1 : a = a' <;> by_cases h2 : b = b' <;> simp [h1, h2]

set_option maxRecDepth 100000 in
set_option maxHeartbeats 6400000 in
theorem fits155 (w : World) (M : Nat → Prop) (g n : Nat) (hs : List Int) (r : Rnd) (pv hv lv : Value) (h : MAt w M g n hs r pv hv lv) (hH : IntsAt w 0 w.heap.size hv hs) (stage from_ br bn : Int) (b : Bool) (hb : b = true ↔ fitsM r n hs stage from_ br bn) :
    Calls Tryd.prog 155 #[.pointer (some ⟨g, 0, none⟩), .int .i64 stage, .int .i64 from_, .agg #[.int .i64 br, .int .i64 bn]] w (YesNo b w) := by
  have hq := eqb23 br bn r.br r.bn
  have hn := h.sz
  have bA : Below w.heap.size w (w.alloc (.cells #[.int .i64 br, .int .i64 bn] 23)) := (Below.refl _ _).alloc (Nat.le_refl _) _
  have H := Lib.hid (And.intro h (And.intro hH hb))
  go_enter Tryd.func155, Tryd.ntmps155
  go_upto_region 1 with (fail)
  refine wp_letter (fun W => Below w.heap.size w W ∧ Blk W w.heap.size 23 #[.int .i64 br, .int .i64 bn]) ⟨bA, Blk.new w 23 _⟩ ?_
  clear bA
  rintro W ⟨hb0, hX⟩
  obtain ⟨x, hx⟩ : ∃ x, x = w.heap.size := ⟨_, rfl⟩
  rw [← hx] at hX ⊢
  have hR := h.row.below hb0 h.row.lt
  have hbr : ∀ d os, Below W.heap.size W (Go.Sort.grow (redrawn W d) os) := fun d os => below_regrown W d os
  have cX : ∀ d os i, (Go.Sort.grow (redrawn W d) os).cell? ⟨x, i, none⟩ = (#[.int .i64 br, .int .i64 bn] : Array Value)[i]? := fun d os => (hX.below (hbr d os) hX.lt).cell
  have c0 : ∀ d os, (Go.Sort.grow (redrawn W d) os).cell? ⟨g, 0, none⟩ = some (.int .i64 n) := fun d os => (hR.below (hbr d os) hR.lt).cell 0
  have c20 : ∀ d os, (Go.Sort.grow (redrawn W d) os).cell? ⟨g, 20, none⟩ = some (.int .i64 r.br) := fun d os => (hR.below (hbr d os) hR.lt).cell 20
  have c21 : ∀ d os, (Go.Sort.grow (redrawn W d) os).cell? ⟨g, 21, none⟩ = some (.int .i64 r.bn) := fun d os => (hR.below (hbr d os) hR.lt).cell 21
  have c22 : ∀ d os, (Go.Sort.grow (redrawn W d) os).cell? ⟨g, 22, none⟩ = some (.int .i64 r.stage) := fun d os => (hR.below (hbr d os) hR.lt).cell 22
  have k159 : ∀ d os, Calls Tryd.prog 159 #[.pointer (some ⟨g, 0, none⟩), .int .i64 from_] (Go.Sort.grow (redrawn W d) os) (YesNo (decide (from_ ∈ hs)) (Go.Sort.grow (redrawn W d) os)) := fun d os =>
    heard159 _ g from_ hv hs ((hR.below (hbr d os) hR.lt).cell 23) ((hH.fr (Fr.of_below (hb0.trans ((hbr d os).mono hb0.size)) (fun _ => False)) (Nat.le_refl _) (fun _ _ _ h => h)).wider (Nat.le_refl _) (hb0.trans ((hbr d os).mono hb0.size)).size)
  have HB := Lib.hid hb0
  clear h hH hb hb0 hR hX hbr hx
  by_cases hst : r.stage = stage
  · have hsb : (r.stage == stage) = true := by simp [hst]
    by_cases he : br = r.br ∧ bn = r.bn
    · have hq' : ∀ w, (binOp .eql 23 (.agg #[.int .i64 br, .int .i64 bn]) (.agg #[.int .i64 r.br, .int .i64 r.bn])).run Tryd.prog w = .ok (.bool true) w := fun w => by rw [hq w]; simp [he.1, he.2]
      clear hq
      by_cases h0 : from_ ≥ 0
      · by_cases h1 : from_ < n
        · by_cases hm : from_ ∈ hs
          · have kk : ∀ d os, Calls Tryd.prog 159 #[.pointer (some ⟨g, 0, none⟩), .int .i64 from_] (Go.Sort.grow (redrawn W d) os) (YesNo true (Go.Sort.grow (redrawn W d) os)) := fun d os => by have := k159 d os; rwa [decide_eq_true hm] at this
            have HNO := Lib.hid (show ¬ fitsM r n hs stage from_ br bn from fun hf => hf.2.2.2.2 hm)
            have HS := Lib.hid (And.intro hst (And.intro he hm))
            clear k159 hst he hm
            try simp only [List.cons_append, List.nil_append, List.append_eq]
            refine wp_region_quiet_cheap (by kernel_rfl) (by kernel_rfl) (by kernel_rfl) (by kernel_rfl) ?_
            repeat (go_big_quiet_step (first | (with_reducible exact Calls.regrown_of (kk _ _))))
            refine wpQuiet_nil ?_
            intro _ hw'
            obtain ⟨⟨dq, osq⟩, hw''⟩ := hw'
            subst hw''
            go_wp2_with (fail)
            go_ret
            exact ⟨ret_bool (by have hb := H.out.2.2; cases b with | false => rfl | true => exact absurd (hb.1 rfl) HNO.out), HB.out.trans ((below_regrown W dq osq).mono HB.out.size)⟩
          · have kk : ∀ d os, Calls Tryd.prog 159 #[.pointer (some ⟨g, 0, none⟩), .int .i64 from_] (Go.Sort.grow (redrawn W d) os) (YesNo false (Go.Sort.grow (redrawn W d) os)) := fun d os => by have := k159 d os; rwa [decide_eq_false hm] at this
            have HYES := Lib.hid (show fitsM r n hs stage from_ br bn from ⟨hst, he, h0, h1, hm⟩)
            have HS := Lib.hid (And.intro hst (And.intro he hm))
            clear k159 hst he hm
            try simp only [List.cons_append, List.nil_append, List.append_eq]
            refine wp_region_quiet_cheap (by kernel_rfl) (by kernel_rfl) (by kernel_rfl) (by kernel_rfl) ?_
            repeat (go_big_quiet_step (first | (with_reducible exact Calls.regrown_of (kk _ _))))
            refine wpQuiet_nil ?_
            intro _ hw'
            obtain ⟨⟨dq, osq⟩, hw''⟩ := hw'
            subst hw''
            go_wp2_with (fail)
            go_ret
            exact ⟨ret_bool ((H.out.2.2.2 HYES.out).symm), HB.out.trans ((below_regrown W dq osq).mono HB.out.size)⟩
        · have HNO := Lib.hid (show ¬ fitsM r n hs stage from_ br bn from fun hf => h1 hf.2.2.2.1)
          have HS := Lib.hid (And.intro hst he)
          clear k159 hst he
          try simp only [List.cons_append, List.nil_append, List.append_eq]
          refine wp_region_quiet_cheap (by kernel_rfl) (by kernel_rfl) (by kernel_rfl) (by kernel_rfl) ?_
          repeat (go_big_quiet_step (fail))
          refine wpQuiet_nil ?_
          intro _ hw'
          obtain ⟨⟨dq, osq⟩, hw''⟩ := hw'
          subst hw''
          go_wp2_with (fail)
          go_ret
          exact ⟨ret_bool (by have hb := H.out.2.2; cases b with | false => rfl | true => exact absurd (hb.1 rfl) HNO.out), HB.out.trans ((below_regrown W dq osq).mono HB.out.size)⟩
      · have HNO := Lib.hid (show ¬ fitsM r n hs stage from_ br bn from fun hf => h0 hf.2.2.1)
        have HS := Lib.hid (And.intro hst he)
        clear k159 hst he
        try simp only [List.cons_append, List.nil_append, List.append_eq]
        refine wp_region_quiet_cheap (by kernel_rfl) (by kernel_rfl) (by kernel_rfl) (by kernel_rfl) ?_
        repeat (go_big_quiet_step (fail))
        refine wpQuiet_nil ?_
        intro _ hw'
        obtain ⟨⟨dq, osq⟩, hw''⟩ := hw'
        subst hw''
        go_wp2_with (fail)
        go_ret
        exact ⟨ret_bool (by have hb := H.out.2.2; cases b with | false => rfl | true => exact absurd (hb.1 rfl) HNO.out), HB.out.trans ((below_regrown W dq osq).mono HB.out.size)⟩
    · have hq' : ∀ w, (binOp .eql 23 (.agg #[.int .i64 br, .int .i64 bn]) (.agg #[.int .i64 r.br, .int .i64 r.bn])).run Tryd.prog w = .ok (.bool false) w := fun w => by
        rw [hq w]
        by_cases h1 : br = r.br <;> by_cases h2 : bn = r.bn <;> simp_all
      have HNO := Lib.hid (show ¬ fitsM r n hs stage from_ br bn from fun hf => he hf.2.1)
      have HS := Lib.hid (And.intro hst he)
      clear hq k159 hst he
      try simp only [List.cons_append, List.nil_append, List.append_eq]
      refine wp_region_quiet_cheap (by kernel_rfl) (by kernel_rfl) (by kernel_rfl) (by kernel_rfl) ?_
      repeat (go_big_quiet_step (fail))
      refine wpQuiet_nil ?_
      intro _ hw'
      obtain ⟨⟨dq, osq⟩, hw''⟩ := hw'
      subst hw''
      go_wp2_with (fail)
      go_ret
      exact ⟨ret_bool (by have hb := H.out.2.2; cases b with | false => rfl | true => exact absurd (hb.1 rfl) HNO.out), HB.out.trans ((below_regrown W dq osq).mono HB.out.size)⟩
  · have hsb : (r.stage == stage) = false := by simp [hst]
    have HNO := Lib.hid (show ¬ fitsM r n hs stage from_ br bn from fun hf => hst hf.1)
    have HS := Lib.hid hst
    clear hq k159 hst
    try simp only [List.cons_append, List.nil_append, List.append_eq]
    refine wp_region_quiet_cheap (by kernel_rfl) (by kernel_rfl) (by kernel_rfl) (by kernel_rfl) ?_
    repeat (go_big_quiet_step (fail))
    refine wpQuiet_nil ?_
    intro _ hw'
    obtain ⟨⟨dq, osq⟩, hw''⟩ := hw'
    subst hw''
    go_wp2_with (fail)
    go_ret
    exact ⟨ret_bool (by have hb := H.out.2.2; cases b with | false => rfl | true => exact absurd (hb.1 rfl) HNO.out), HB.out.trans ((below_regrown W dq osq).mono HB.out.size)⟩
end Go.Proofs.YtnlncfjibbdimaaDoor

namespace Go.Proofs.YtnlncfjibbdimaaDoor
open Go.RowKit
set_option linter.unusedSimpArgs false
set_option linter.unusedVariables false

/-- What the document's Ledger answers. -/
def RLedPost (r : Rnd) (lv : Value) (w : World) (e : Ending) (w' : World) : Prop :=
  e = .returned (.tuple #[if toldB r.stage = true then lv else .slice none 0 0, .int .i64 r.place]) ∧ Below w.heap.size w w'

set_option maxRecDepth 100000 in
set_option maxHeartbeats 6400000 in
theorem rledger126 (w : World) (M : Nat → Prop) (g n : Nat) (hs : List Int) (r : Rnd) (pv hv lv : Value) (h : MAt w M g n hs r pv hv lv) :
    Calls Tryd.prog 126 #[.pointer (some ⟨g, 0, none⟩)] w (RLedPost r lv w) := by
  have c22 : w.cell? ⟨g, 22, none⟩ = some (.int .i64 r.stage) := h.row.cell 22
  have c19 : w.cell? ⟨g, 19, none⟩ = some (.bool r.reads) := h.row.cell 19
  obtain ⟨A, cap, hlv, hl1, hl2, hl3⟩ := h.led.at_.form
  obtain ⟨nl, hnl⟩ : ∃ nl, nl = r.led.length := ⟨_, rfl⟩
  rw [← hnl] at hlv
  subst hlv
  have hbr : ∀ d os, Below w.heap.size w (Go.Sort.grow (redrawn w d) os) := fun d os => below_regrown w d os
  have c26 : ∀ d os, (Go.Sort.grow (redrawn w d) os).cell? ⟨g, 26, none⟩ = some (.slice A nl cap) := fun d os => (h.row.below (hbr d os) h.row.lt).cell 26
  have c2 : ∀ d os, (Go.Sort.grow (redrawn w d) os).cell? ⟨g, 2, none⟩ = some (.int .i64 r.cmd.idn) := fun d os => (h.row.below (hbr d os) h.row.lt).cell 2
  have c3 : ∀ d os, (Go.Sort.grow (redrawn w d) os).cell? ⟨g, 3, none⟩ = some (.int .i64 r.cmd.idb) := fun d os => (h.row.below (hbr d os) h.row.lt).cell 3
  have c4 : ∀ d os, (Go.Sort.grow (redrawn w d) os).cell? ⟨g, 4, none⟩ = some (.int .i64 r.cmd.ids) := fun d os => (h.row.below (hbr d os) h.row.lt).cell 4
  have k157 : ∀ d os, Calls Tryd.prog 157 #[.slice A nl cap, .agg #[.int .i64 r.cmd.idn, .int .i64 r.cmd.idb, .int .i64 r.cmd.ids]] (Go.Sort.grow (redrawn w d) os) fun e w' => e = .returned (.int .i64 (idxN r.led r.cmd.idn r.cmd.idb r.cmd.ids + 1)) ∧ Below (Go.Sort.grow (redrawn w d) os).heap.size (Go.Sort.grow (redrawn w d) os) w' := fun d os =>
    rplace157 _ 0 w.heap.size _ r.led (h.led.at_.fr (Fr.of_below (hbr d os) (fun _ => False)) (Nat.le_refl _) (fun _ _ _ h => h)) (hbr d os).size _ _ _
  obtain ⟨z, hz⟩ : ∃ z, z = idxN r.led r.cmd.idn r.cmd.idb r.cmd.ids + 1 := ⟨_, rfl⟩
  rw [← hz] at k157
  have HZ := Lib.hid (And.intro hnl hz)
  have hnl63 : nl ≤ 9223372036854775807 := by simp only [maxLen] at hl2; omega
  unfold RLedPost Rnd.place
  rw [← hz, ← hnl]
  clear h hl1 hl2 hl3 hnl hz hbr
  by_cases h2 : r.stage = 2
  · rw [h2] at c22 ⊢
    clear h2
    cases hr : r.reads with
    | true =>
      rw [hr] at c19
      clear hr
      go_enter Tryd.func126, Tryd.ntmps126
      go_upto_region 4 with (fail)
      try simp only [List.cons_append, List.nil_append, List.append_eq]
      refine wp_region_quiet_cheap (by kernel_rfl) (by kernel_rfl) (by kernel_rfl) (by kernel_rfl) ?_
      repeat (go_big_quiet_step (fail))
      refine wpQuiet_nil ?_
      intro _ hw'
      obtain ⟨⟨dq, osq⟩, hw''⟩ := hw'
      subst hw''
      go_wp2_with (fail)
      go_ret2
      exact ⟨by simp [toldB], below_regrown w dq osq⟩
    | false =>
      rw [hr] at c19
      clear hr
      go_enter Tryd.func126, Tryd.ntmps126
      go_upto_region 5 with (fail)
      try simp only [List.cons_append, List.nil_append, List.append_eq]
      refine wp_region_quiet_cheap (by kernel_rfl) (by kernel_rfl) (by kernel_rfl) (by kernel_rfl) ?_
      repeat (go_big_quiet_step (first | (with_reducible exact Calls.regrown_of (k157 _ _))))
      refine wpQuiet_nil ?_
      intro _ hw'
      obtain ⟨⟨dq, osq⟩, hw''⟩ := hw'
      subst hw''
      go_wp2_with (fail)
      go_ret2
      exact ⟨by simp [toldB], below_regrown w dq osq⟩
  · by_cases h3 : r.stage = 3
    · rw [h3] at c22 ⊢
      clear h2 h3
      cases hr : r.reads with
      | true =>
        rw [hr] at c19
        clear hr
        go_enter Tryd.func126, Tryd.ntmps126
        go_upto_region 4 with (fail)
        try simp only [List.cons_append, List.nil_append, List.append_eq]
        refine wp_region_quiet_cheap (by kernel_rfl) (by kernel_rfl) (by kernel_rfl) (by kernel_rfl) ?_
        repeat (go_big_quiet_step (fail))
        refine wpQuiet_nil ?_
        intro _ hw'
        obtain ⟨⟨dq, osq⟩, hw''⟩ := hw'
        subst hw''
        go_wp2_with (fail)
        go_ret2
        exact ⟨by simp [toldB], below_regrown w dq osq⟩
      | false =>
        rw [hr] at c19
        clear hr
        go_enter Tryd.func126, Tryd.ntmps126
        go_upto_region 5 with (fail)
        try simp only [List.cons_append, List.nil_append, List.append_eq]
        refine wp_region_quiet_cheap (by kernel_rfl) (by kernel_rfl) (by kernel_rfl) (by kernel_rfl) ?_
        repeat (go_big_quiet_step (first | (with_reducible exact Calls.regrown_of (k157 _ _))))
        refine wpQuiet_nil ?_
        intro _ hw'
        obtain ⟨⟨dq, osq⟩, hw''⟩ := hw'
        subst hw''
        go_wp2_with (fail)
        go_ret2
        exact ⟨by simp [toldB], below_regrown w dq osq⟩
    · have b2 : (r.stage != 2) = true := by simp [h2]
      have b3 : (r.stage != 3) = true := by simp [h3]
      have ht : toldB r.stage = false := by unfold toldB; simp [h2, h3]
      rw [ht]
      clear ht
      go_enter Tryd.func126, Tryd.ntmps126
      go_wp2_with (fail)
      go_ret2
      exact ⟨by simp, Below.refl _ _⟩
end Go.Proofs.YtnlncfjibbdimaaDoor
