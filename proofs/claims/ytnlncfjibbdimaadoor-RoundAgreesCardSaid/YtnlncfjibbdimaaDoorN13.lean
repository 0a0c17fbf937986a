/-
  ledger.Put; a round's tell, Promise, New; each call as one contract; the example.
-/
import Derived.Test.YtnlncfjibbdimaaDoorL13
import Derived.Test.YtnlncfjibbdimaaDoorLex
import Derived.Deep.DeepCutAuto
import Derived.Test.YtnlncfjibbdimaaDoorM13
import Derived.Test.YtnlncfjibbdimaaDoorCheck
namespace Go.Proofs.YtnlncfjibbdimaaDoor
open Go.RowKit
set_option linter.unusedSimpArgs false
set_option linter.unusedVariables false

/-- What Put makes of a ledger. -/
def putL (l : List Cmd) (c : Cmd) : Option (List Cmd) := if 0 ≤ idxN l c.idn c.idb c.ids then some l else if 4096 ≤ l.length then none else some (l ++ [c])
/-- The place that Put tells. -/
def putN13 (l : List Cmd) (c : Cmd) : Int := if 0 ≤ idxN l c.idn c.idb c.ids then idxN l c.idn c.idb c.ids + 1 else if 4096 ≤ l.length then 0 else (l.length : Nat) + 1
/-- What Put answers. -/
def PutPost (l : List Cmd) (c : Cmd) (a4 : Addr) (w : World) (e : Ending) (w' : World) : Prop :=
  ∃ v q, e = .returned (.tuple #[v, .int .i64 (putN13 l c), q]) ∧ Below w.heap.size w w' ∧
    ((∃ l', putL l c = some l' ∧ q = .nilIface ∧ OwnLed w' w.heap.size w'.heap.size v l') ∨ (putL l c = none ∧ q = errv a4 ∧ v = .slice none 0 0))

theorem append_led {W : World} {lo : Nat} {v1 v2 : Value} {l1 l2 : List Cmd} (h1 : OwnLed W lo W.heap.size v1 l1) (hlo : lo ≤ W.heap.size) (h2 : OwnLed W lo W.heap.size v2 l2) (hl : (l1.length + l2.length) * 184 ≤ 140737488355328) :
    ∃ v3 W', (Builtin.append_ #[46, 46] 46 #[v1, v2]).run Tryd.prog W = .ok v3 W' ∧ OwnLed W' lo W'.heap.size v3 (l1 ++ l2) ∧ Below lo W W' := by
  obtain ⟨i1, z1, hi1, hz11, hz12, hz13, hz14⟩ := cmd_info'
  obtain ⟨rows1, hown1, _, hrl1, hrows1⟩ := h1
  obtain ⟨rows2, hown2, _, hrl2, hrows2⟩ := h2
  obtain ⟨A2, c2, rfl, _⟩ := hown2.form
  have hrd := Rd.of_own hown2.1 hown2.2
  have hcl : ∀ u ∈ rows2.flatten, u.oneCell' = true := by
    intro u hu
    obtain ⟨r, hr, hu⟩ := List.mem_flatten.1 hu
    obtain ⟨i, hi, rfl⟩ := List.getElem_of_mem hr
    obtain ⟨pv, e, hp⟩ := hrows2 i _ _ (List.getElem?_eq_getElem hi) (List.getElem?_eq_getElem (by omega))
    rw [e] at hu
    obtain ⟨Ap, cp, rfl, _⟩ := hp.at_
    have h1c : ∀ u ∈ (l2[i]'(by omega)).cells (.slice Ap (l2[i]'(by omega)).parts.length cp), u.oneCell' = true := by
      have := cells_oneCell (l2[i]'(by omega)) Ap (l2[i]'(by omega)).parts.length cp
      simpa using this
    exact h1c u hu
  obtain ⟨v3, W3, hrun, hown3, hg, hat⟩ := run_append_any (P := Tryd.prog) W lo 46 46 81 i1 z1 18 184 Tryd.underlying46 hi1 hz11 hz12 hz13 hz14 (by decide) v1 l1.length rows1.flatten hown1.1 lo W.heap.size A2 l2.length c2 rows2.flatten hrd hcl (by simp only [maxLen]; omega) (by omega) hlo
  refine ⟨v3, W3, hrun, ⟨rows1 ++ rows2, ?_, by rw [List.length_append]; omega, by simp [hrl1, hrl2], fun i r d hr hd => ?_⟩, (Below.refl lo W).grown hg hlo (fun k hk => (hown1.1.lt k hk).1)⟩
  · rw [List.flatten_append, List.length_append]
    exact ⟨hown3, fun g hg => (hown3.lt g hg).2⟩
  · by_cases hi : i < rows1.length
    · rw [List.getElem?_append_left hi] at hr
      rw [List.getElem?_append_left (by omega)] at hd
      obtain ⟨pv, e1, e2⟩ := hrows1 i r d hr hd
      exact ⟨pv, e1, (e2.grown hown1.1 (by decide) hg).wider (Nat.le_refl _) hg.size⟩
    · rw [List.getElem?_append_right (by omega)] at hr
      rw [List.getElem?_append_right (by omega), ← hrl1] at hd
      obtain ⟨pv, e1, e2⟩ := hrows2 _ r d hr hd
      exact ⟨pv, e1, (e2.grown hown1.1 (by decide) hg).wider (Nat.le_refl _) hg.size⟩

theorem wp_append_led {o : Oper} {a : Act} {W : World} {K : Act → World → Prop} {Q : Exit → Act → World → Prop} (s x : Operand) (lo : Nat) (v1 v2 : Value) (l1 l2 : List Cmd) (ho : o.op = .call { callee := .builtin .append, args := #[s, x], argTypes := #[46, 46] }) (hty : o.type = 46)
    (hs : a.eval s = v1) (hx : a.eval x = v2) (h1 : OwnLed W lo W.heap.size v1 l1) (hlo : lo ≤ W.heap.size) (h2 : OwnLed W lo W.heap.size v2 l2) (hl : (l1.length + l2.length) * 184 ≤ 140737488355328)
    (h : ∀ v' W', OwnLed W' lo W'.heap.size v' (l1 ++ l2) → Below lo W W' → K (a.put o.dst v') W') : o.wp Tryd.prog a W K Q := by
  obtain ⟨v', W', hrun, h1, h2⟩ := append_led h1 hlo h2 hl
  unfold Oper.wp execOp
  simp only [ho, hty, resolve, invoke, builtin, Sem.run_bind, Sem.run_pure, Result.andThen_ok, List.map_toArray, List.map_cons, List.map_nil, hs, hx, hrun]
  exact h v' W' h1 h2

theorem wp_buildSlice1 {o : Oper} {a : Act} {W : World} {K : Act → World → Prop} {Q : Exit → Act → World → Prop} (x : Operand) (cells : Array Value) (ho : o.op = .buildSlice 46 1 #[(0, x)]) (hx : a.eval x = .agg cells) (hc : cells.size = 18)
    (h : K (a.put o.dst (.slice (some ⟨W.heap.size, 0, none⟩) 1 1)) (W.alloc (.cells cells 81))) : o.wp Tryd.prog a W K Q := by
  obtain ⟨i1, z1, hi1, hz11, hz12, hz13, hz14⟩ := cmd_info'
  have hr := run_buildSlice1 46 81 i1 z1 cells Tryd.underlying46 hi1 hz11 (by rw [hc]; exact hz12) (by rw [hc]; exact hz14) (by omega) (by omega) W
  unfold Oper.wp execOp
  simp only [ho, List.map_toArray, List.map_cons, List.map_nil, hx, Sem.run_bind, hr, Result.andThen_ok, Sem.run_pure]
  exact h

theorem LedAt.one13 {w : World} {lo hi q : Nat} {pv : Value} {c : Cmd} (hB : Blk w q 81 (c.cells pv).toArray) (hp : IntsAt w lo hi pv c.parts) : LedAt w 0 (max hi (q + 1)) (.slice (some ⟨q, 0, none⟩) 1 1) [c] :=
  ⟨_, 1, [c.cells pv], rfl, Nat.le_refl _, by simp [maxLen], by simp, ⟨by simp [Cmd.cells_length], fun _ => ⟨_, rfl, Nat.zero_le _, by simp only; omega, fun j u hu => by rw [Addr.add_mid]; exact hB.range j u (by simpa using hu)⟩⟩, rfl, fun i r d h1 h2 => by
    have hi : i = 0 := by
      have := (List.getElem?_eq_some_iff.1 h1).1
      simp at this
      omega
    subst hi
    simp at h1 h2
    subst h1 h2
    obtain ⟨A, cc, e, q1, q2, q3, q4⟩ := hp
    exact ⟨_, rfl, A, cc, e, q1, q2, q3, q4.wider (Nat.zero_le _) (by omega)⟩⟩

set_option maxRecDepth 100000 in
set_option maxHeartbeats 1600000 in
theorem put_found (w : World) (lo hi : Nat) (v : Value) (l : List Cmd) (h : LedAt w lo hi v l) (hhi : hi ≤ w.heap.size) (c : Cmd) (pv : Value) (a4 : Addr) (hf : 0 ≤ idxN l c.idn c.idb c.ids) :
    Calls Tryd.prog 153 #[v, .agg (c.cells pv).toArray] w (PutPost l c a4 w) := by
  have bA : Below w.heap.size w (w.alloc (.cells (c.cells pv).toArray 81)) := (Below.refl _ _).alloc (Nat.le_refl _) _
  have hX := Blk.new w 81 (c.cells pv).toArray
  have c1 : (w.alloc (.cells (c.cells pv).toArray 81)).cell? ⟨w.heap.size, 1, none⟩ = some (.int .i64 c.idn) := hX.cell 1
  have c2 : (w.alloc (.cells (c.cells pv).toArray 81)).cell? ⟨w.heap.size, 2, none⟩ = some (.int .i64 c.idb) := hX.cell 2
  have c3 : (w.alloc (.cells (c.cells pv).toArray 81)).cell? ⟨w.heap.size, 3, none⟩ = some (.int .i64 c.ids) := hX.cell 3
  have k154 := index_any (w.alloc (.cells (c.cells pv).toArray 81)) lo hi v l (h.fr (Fr.of_below bA (fun _ => False)) hhi (fun _ _ _ h => h)) (Nat.le_trans hhi bA.size) c.idn c.idb c.ids
  have k167 : ∀ W, Below w.heap.size w W → Calls Tryd.prog 167 #[v] W (CopyPost W l) := fun W b => copied167_any W lo hi v l (h.fr (Fr.of_below b (fun _ => False)) hhi (fun _ _ _ h => h)) (Nat.le_trans hhi b.size)
  obtain ⟨A, cap, rfl, hl1, hl2, hl3⟩ := h.form
  obtain ⟨n, hn⟩ : ∃ n, n = l.length := ⟨_, rfl⟩
  rw [← hn] at h k154 k167 ⊢
  have hputL : putL l c = some l := by unfold putL; rw [if_pos hf]
  have hputN : putN13 l c = idxN l c.idn c.idb c.ids + 1 := by unfold putN13; rw [if_pos hf]
  rcases idxN_cases l c.idn c.idb c.ids with hm | ⟨i, hi, hil⟩
  · omega
  · rw [hi] at k154 hputN
    have hi0 : (0 : Int) ≤ i := by omega
    have hw1 : IntKind.i64.wrap ((i : Int) + 1) = (i : Int) + 1 := by rw [IntKind.wrap_i64]; simp only [maxLen] at hl2; omega
    have HK := Lib.hid (And.intro k154 (And.intro k167 (And.intro bA (And.intro hputL hputN))))
    have HN := Lib.hid hn
    clear k154 k167 bA h hX hl1 hl2 hl3 hf hi hil hputL hputN hn
    go_enter Tryd.func153, Tryd.ntmps153
    go_wp2_with (first
      | (go_at_call 154; refine HK.out.1.mono ?_; rintro e w2 ⟨rfl, b2⟩; have H2 := Lib.hid b2; clear b2)
      | (go_at_call 167
         refine (HK.out.2.1 w2 (HK.out.2.2.1.trans (H2.out.mono HK.out.2.2.1.size))).mono ?_
         rintro e w3 ⟨v3, rfl, o3, b3⟩
         obtain ⟨A3, c3', hv3, _⟩ := o3.at_.form
         rw [← HN.out] at hv3
         subst hv3
         have H3 := Lib.hid (And.intro o3 b3)
         clear o3 b3)
      | fail)
    have hb2 := HK.out.2.2.1.trans (H2.out.mono HK.out.2.2.1.size)
    have hret : PutPost l c a4 w (.returned (.tuple #[.slice A3 n c3', .int .i64 ((i : Int) + 1), .nilIface])) w3 :=
      ⟨_, _, by rw [HK.out.2.2.2.2], hb2.trans (H3.out.2.mono hb2.size), .inl ⟨l, HK.out.2.2.2.1, rfl, H3.out.1.wider hb2.size (Nat.le_refl _)⟩⟩
    go_ret3
    exact hret

set_option maxRecDepth 100000 in
set_option maxHeartbeats 1600000 in
theorem put_full (w : World) (lo hi : Nat) (v : Value) (l : List Cmd) (h : LedAt w lo hi v l) (hhi : hi ≤ w.heap.size) (c : Cmd) (pv : Value) (a4 : Addr) (h4 : w.cell? ⟨4, 0, none⟩ = some (errv a4)) (hf : idxN l c.idn c.idb c.ids = -1) (hl : 4096 ≤ l.length) :
    Calls Tryd.prog 153 #[v, .agg (c.cells pv).toArray] w (PutPost l c a4 w) := by
  have h04 := World.block_lt_of_cell? w _ h4
  have bA : Below w.heap.size w (w.alloc (.cells (c.cells pv).toArray 81)) := (Below.refl _ _).alloc (Nat.le_refl _) _
  have hX := Blk.new w 81 (c.cells pv).toArray
  have c1 : (w.alloc (.cells (c.cells pv).toArray 81)).cell? ⟨w.heap.size, 1, none⟩ = some (.int .i64 c.idn) := hX.cell 1
  have c2 : (w.alloc (.cells (c.cells pv).toArray 81)).cell? ⟨w.heap.size, 2, none⟩ = some (.int .i64 c.idb) := hX.cell 2
  have c3 : (w.alloc (.cells (c.cells pv).toArray 81)).cell? ⟨w.heap.size, 3, none⟩ = some (.int .i64 c.ids) := hX.cell 3
  have k154 := index_any (w.alloc (.cells (c.cells pv).toArray 81)) lo hi v l (h.fr (Fr.of_below bA (fun _ => False)) hhi (fun _ _ _ h => h)) (Nat.le_trans hhi bA.size) c.idn c.idb c.ids
  obtain ⟨A, cap, rfl, hl1, hl2, hl3⟩ := h.form
  obtain ⟨n, hn⟩ : ∃ n, n = l.length := ⟨_, rfl⟩
  rw [← hn] at h k154 hl ⊢
  have hputL : putL l c = none := by unfold putL; rw [if_neg (by omega), if_pos (by omega)]
  have hputN : putN13 l c = 0 := by unfold putN13; rw [if_neg (by omega), if_pos (by omega)]
  rw [hf] at k154
  have hn1 : (n : Int) ≥ 4096 := by omega
  have HK := Lib.hid (And.intro k154 (And.intro bA (And.intro hputL hputN)))
  have HG := Lib.hid (show ∀ W, Below w.heap.size w W → W.cell? ⟨4, 0, none⟩ = some (errv a4) from fun W b => (b.cell h04).trans h4)
  clear k154 bA h hX hl1 hl2 hl3 hf hputL hputN hn h4 h04 hl
  go_enter Tryd.func153, Tryd.ntmps153
  go_upto_region 5 with (first
    | (go_at_call 154; refine HK.out.1.mono ?_; rintro e w2 ⟨rfl, b2⟩; have H2 := Lib.hid (HK.out.2.1.trans (b2.mono HK.out.2.1.size)); have cE := HG.out w2 H2.out; clear b2)
    | fail)
  go_region_held3 (fun w' => w'.cell? ⟨4, 0, none⟩ = some (errv a4)) (go_keep) (fail)
  have hret : PutPost l c a4 w (.returned (.tuple #[.slice none 0 0, .int .i64 0, errv a4])) w2.drew :=
    ⟨_, _, by rw [HK.out.2.2.2], H2.out.drew, .inr ⟨HK.out.2.2.1, rfl, rfl⟩⟩
  go_wp2_with (fail)
  go_ret3
  exact hret

set_option maxRecDepth 100000 in
set_option maxHeartbeats 3200000 in
theorem put_more (w : World) (lo hi : Nat) (v : Value) (l : List Cmd) (h : LedAt w lo hi v l) (hhi : hi ≤ w.heap.size) (c : Cmd) (pv : Value) (a4 : Addr) (hpv : IntsAt w 0 w.heap.size pv c.parts) (hf : idxN l c.idn c.idb c.ids = -1) (hl : l.length < 4096) :
    Calls Tryd.prog 153 #[v, .agg (c.cells pv).toArray] w (PutPost l c a4 w) := by
  have bA : Below w.heap.size w (w.alloc (.cells (c.cells pv).toArray 81)) := (Below.refl _ _).alloc (Nat.le_refl _) _
  have hX := Blk.new w 81 (c.cells pv).toArray
  have c1 : (w.alloc (.cells (c.cells pv).toArray 81)).cell? ⟨w.heap.size, 1, none⟩ = some (.int .i64 c.idn) := hX.cell 1
  have c2 : (w.alloc (.cells (c.cells pv).toArray 81)).cell? ⟨w.heap.size, 2, none⟩ = some (.int .i64 c.idb) := hX.cell 2
  have c3 : (w.alloc (.cells (c.cells pv).toArray 81)).cell? ⟨w.heap.size, 3, none⟩ = some (.int .i64 c.ids) := hX.cell 3
  have k154 := index_any (w.alloc (.cells (c.cells pv).toArray 81)) lo hi v l (h.fr (Fr.of_below bA (fun _ => False)) hhi (fun _ _ _ h => h)) (Nat.le_trans hhi bA.size) c.idn c.idb c.ids
  obtain ⟨A, cap, rfl, hl1, hl2, hl3⟩ := h.form
  obtain ⟨n, hn⟩ : ∃ n, n = l.length := ⟨_, rfl⟩
  rw [← hn] at h k154 hl ⊢
  have hputL : putL l c = some (l ++ [c]) := by unfold putL; rw [if_neg (by omega), if_neg (by omega)]
  have hputN : putN13 l c = (n : Int) + 1 := by unfold putN13; rw [if_neg (by omega), if_neg (by omega), hn]
  rw [hf] at k154
  have hn1 : ¬ (n : Int) ≥ 4096 := by omega
  have HK := Lib.hid (And.intro k154 (And.intro bA (And.intro hputL (And.intro hputN (And.intro hX (And.intro h hpv))))))
  have HN := Lib.hid hn
  clear k154 bA h hX hl1 hl2 hl3 hf hputL hputN hn hl hpv
  go_enter Tryd.func153, Tryd.ntmps153
  go_upto_region 6 with (first
    | (go_at_call 154; refine HK.out.1.mono ?_; rintro e w2 ⟨rfl, b2⟩; have H2 := Lib.hid b2; clear b2)
    | fail)
  refine wp_letter (fun W => Below w.heap.size w W ∧ Blk W w.heap.size 81 (c.cells pv).toArray) ⟨HK.out.2.1.trans (H2.out.mono HK.out.2.1.size), HK.out.2.2.2.2.1.below H2.out HK.out.2.2.2.2.1.lt⟩ ?_
  clear c1 c2 c3
  rintro W ⟨hb, hX⟩
  obtain ⟨x, hx⟩ : ∃ x, x = w.heap.size := ⟨_, rfl⟩
  rw [← hx] at hX ⊢
  have hXs : ∀ W', Below W.heap.size W W' → W'.rangeAt x 0 (c.cells pv) := fun W' b => (hX.below b hX.lt).range
  have k167 : ∀ W', Below W.heap.size W W' → Calls Tryd.prog 167 #[.slice A n cap] W' (CopyPost W' l) := fun W' b => by
    have b' := hb.trans (b.mono hb.size)
    exact copied167_any W' lo hi _ l (HK.out.2.2.2.2.2.1.fr (Fr.of_below b' (fun _ => False)) hhi (fun _ _ _ h => h)) (Nat.le_trans hhi b'.size)
  have k167b : ∀ W' q, Below W.heap.size W W' → Blk W' q 81 (c.cells pv).toArray → Calls Tryd.prog 167 #[.slice (some ⟨q, 0, none⟩) 1 1] W' (CopyPost W' [c]) := fun W' q b hq => by
    have b' := hb.trans (b.mono hb.size)
    have hp := HK.out.2.2.2.2.2.2.fr (Fr.of_below b' (fun _ => False)) (Nat.le_refl _) (fun _ _ _ h => h)
    exact copied167_any W' 0 _ _ [c] (LedAt.one13 hq hp) (by have := b'.size; have := hq.lt; omega)
  have HQ := Lib.hid (And.intro hXs (And.intro k167 (And.intro k167b (And.intro hb hx))))
  have hBr : Below W.heap.size W W.drew := (Below.refl W.heap.size W).drew
  clear hX k167 k167b hb hx hXs
  go_cut [8] (fun v8 wx => ∃ A8 c8, v8 = .slice A8 (n + 1) c8 ∧ OwnLed wx W.heap.size wx.heap.size (.slice A8 (n + 1) c8) (l ++ [c]) ∧ Below W.heap.size W wx)
  case first =>
    refine wp_region_held_drew (S := fun w' => Below W.heap.size W w') (by kernel_rfl) hBr (fun _ => ?_)
    refine wpAnyH_take (i := 0) (v := .slice A n cap) rfl (by kernel_rfl) (by kernel_rfl) (by kernel_rfl) (fun _ _ _ h => h) (Or.inl ⟨by kernel_rfl, fun w' hSw => ?_⟩) hBr ?_
    · go_simp
    simp only [List.getElem_toArray, List.getElem_cons_succ, List.getElem_cons_zero, Act.put, List.setIfInBounds_toArray, List.set_cons_zero, List.set_cons_succ]
    refine wpAnyH_take (i := 2) (v := .agg (c.cells pv).toArray) rfl (by kernel_rfl) (by kernel_rfl) (by kernel_rfl) (fun _ _ _ h => h) ?_ hBr ?_
    · refine yieldsIf_load_mid ?_ 81 (.tmp 3) ?_ x 0 ?_ (c.cells pv) _ HQ.out.1 Tryd.underlying81 ?_ cmd_info
      · kernel_rfl
      · rfl
      · kernel_rfl
      · rfl
    simp only [List.getElem_toArray, List.getElem_cons_succ, List.getElem_cons_zero, Act.put, List.setIfInBounds_toArray, List.set_cons_zero, List.set_cons_succ]
    refine wpAnyH_ready (rs := [1, 3]) (by kernel_rfl) (by simp) ?_
    refine AllReadyH.cons rfl (fun K hK => ?_) ?_
    · go_simp
      refine (HQ.out.2.1 _ hBr).mono ?_
      rintro e u1 ⟨v1, rfl, o1, d1⟩
      have hb1 := hBr.trans (d1.mono hBr.size)
      obtain ⟨A1, c1, hv1, _⟩ := o1.at_.form
      rw [← HN.out] at hv1
      subst hv1
      have H1 := Lib.hid (o1.wider hBr.size (Nat.le_refl _))
      clear o1
      refine Shut.out hK _ _ hb1 (fun _ => ?_)
      clear hK K
      refine wpAnyH_ready (rs := [3]) (by kernel_rfl) (by simp) ?_
      refine AllReadyH.cons rfl (fun K hK => ?_) ?_
      · have hb2 : Below W.heap.size W (World.alloc u1 (.cells (c.cells pv).toArray 81)) := hb1.alloc hb1.size _
        have hz2 := Blk.new u1 81 (c.cells pv).toArray
        have k2 := HQ.out.2.2.1 _ _ hb2 hz2
        have o2 := H1.out.fr (Fr.of_below ((Below.refl u1.heap.size u1).alloc (Nat.le_refl _) (.cells (c.cells pv).toArray 81)) (fun _ => False)) (Nat.le_refl _) (fun _ _ _ h => h)
        have H2' := Lib.hid (And.intro k2 (o2.wider (Nat.le_refl _) (by simp : u1.heap.size ≤ (World.alloc u1 (.cells (c.cells pv).toArray 81)).heap.size)))
        clear hz2 k2 o2
        rw [if_pos (by kernel_rfl)]
        refine wp_buildSlice1 (.tmp 25) (c.cells pv).toArray rfl rfl rfl ?_
        refine Shut.out hK _ _ hb2 (fun _ => ?_)
        clear hK K
        simp only [List.getElem_toArray, List.getElem_cons_succ, List.getElem_cons_zero, Act.put, List.setIfInBounds_toArray, List.set_cons_zero, List.set_cons_succ]
        refine wpAnyH_ready (rs := [4]) (by kernel_rfl) (by simp) ?_
        refine AllReadyH.cons rfl (fun K hK => ?_) ?_
        · go_simp
          refine (H2'.out.1).mono ?_
          rintro e u3 ⟨v3, rfl, o3, d3⟩
          have hb3 := hb2.trans (d3.mono hb2.size)
          obtain ⟨A3, c3, hv3, _⟩ := o3.at_.form
          subst hv3
          have H3 := Lib.hid (And.intro (o3.wider hb2.size (Nat.le_refl _)) ((H2'.out.2.fr (Fr.of_below d3 (fun _ => False)) (Nat.le_refl _) (fun _ _ _ h => h)).wider (Nat.le_refl _) d3.size))
          clear o3
          refine Shut.out hK _ _ hb3 (fun _ => ?_)
          clear hK K
          refine wpAnyH_ready (rs := [5]) (by kernel_rfl) (by simp) ?_
          refine AllReadyH.cons rfl (fun K hK => ?_) ?_
          · rw [if_pos (by kernel_rfl)]
            refine wp_append_led (.tmp 24) (.tmp 27) W.heap.size _ _ l [c] rfl rfl rfl rfl H3.out.2 hb3.size H3.out.1 (by have := HN.out; simp only [List.length_singleton]; omega) ?_
            intro v4 W4 o4 d4
            have hb4 := hb3.trans d4
            obtain ⟨A4, c4, hv4, _⟩ := o4.at_.form
            rw [List.length_append, List.length_singleton, ← HN.out] at hv4
            subst hv4
            have H4 := Lib.hid o4
            clear o4
            refine Shut.out hK _ _ hb4 (fun _ => ?_)
            clear hK K
            simp only [List.getElem_toArray, List.getElem_cons_succ, List.getElem_cons_zero, Act.put, List.setIfInBounds_toArray, List.set_cons_zero, List.set_cons_succ]
            refine wpAnyH_take (i := 6) (v := .slice A4 (n + 1) c4) rfl (by kernel_rfl) (by kernel_rfl) (by kernel_rfl) (fun _ _ _ h => h) (Or.inl ⟨by kernel_rfl, fun w' hSw => ?_⟩) hb4 ?_
            · go_simp
            simp only [List.getElem_toArray, List.getElem_cons_succ, List.getElem_cons_zero, Act.put, List.setIfInBounds_toArray, List.set_cons_zero, List.set_cons_succ]
            refine wpAnyH_done (by kernel_rfl) ?_ _
            go_wp2_with (fail)
            go_meet
            exact ⟨_, _, rfl, H4.out, hb4⟩
          exact AllReadyH.nil
        exact AllReadyH.nil
      exact AllReadyH.nil
    refine AllReadyH.cons rfl (fun K hK => ?_) ?_
    · have hb1 : Below W.heap.size W (World.alloc W.drew (.cells (c.cells pv).toArray 81)) := hBr.alloc hBr.size _
      have hz1 := Blk.new W.drew 81 (c.cells pv).toArray
      have HZ := Lib.hid hz1
      clear hz1
      rw [if_pos (by kernel_rfl)]
      refine wp_buildSlice1 (.tmp 25) (c.cells pv).toArray rfl rfl rfl ?_
      refine Shut.out hK _ _ hb1 (fun _ => ?_)
      clear hK K
      simp only [List.getElem_toArray, List.getElem_cons_succ, List.getElem_cons_zero, Act.put, List.setIfInBounds_toArray, List.set_cons_zero, List.set_cons_succ]
      refine wpAnyH_ready (rs := [1]) (by kernel_rfl) (by simp) ?_
      refine AllReadyH.cons rfl (fun K hK => ?_) ?_
      · go_simp
        refine (HQ.out.2.1 _ hb1).mono ?_
        rintro e u1 ⟨v1, rfl, o1, d1⟩
        have hb2 := hb1.trans (d1.mono hb1.size)
        obtain ⟨A1, c1, hv1, _⟩ := o1.at_.form
        rw [← HN.out] at hv1
        subst hv1
        have k2 := HQ.out.2.2.1 _ _ hb2 (HZ.out.below d1 HZ.out.lt)
        have H2' := Lib.hid (And.intro k2 (o1.wider hb1.size (Nat.le_refl _)))
        clear o1 k2
        refine Shut.out hK _ _ hb2 (fun _ => ?_)
        clear hK K
        try simp only [List.getElem_toArray, List.getElem_cons_succ, List.getElem_cons_zero, Act.put, List.setIfInBounds_toArray, List.set_cons_zero, List.set_cons_succ]
        refine wpAnyH_ready (rs := [4]) (by kernel_rfl) (by simp) ?_
        refine AllReadyH.cons rfl (fun K hK => ?_) ?_
        · go_simp
          refine (H2'.out.1).mono ?_
          rintro e u3 ⟨v3, rfl, o3, d3⟩
          have hb3 := hb2.trans (d3.mono hb2.size)
          obtain ⟨A3, c3, hv3, _⟩ := o3.at_.form
          subst hv3
          have H3 := Lib.hid (And.intro (o3.wider hb2.size (Nat.le_refl _)) ((H2'.out.2.fr (Fr.of_below d3 (fun _ => False)) (Nat.le_refl _) (fun _ _ _ h => h)).wider (Nat.le_refl _) d3.size))
          clear o3
          refine Shut.out hK _ _ hb3 (fun _ => ?_)
          clear hK K
          refine wpAnyH_ready (rs := [5]) (by kernel_rfl) (by simp) ?_
          refine AllReadyH.cons rfl (fun K hK => ?_) ?_
          · rw [if_pos (by kernel_rfl)]
            refine wp_append_led (.tmp 24) (.tmp 27) W.heap.size _ _ l [c] rfl rfl rfl rfl H3.out.2 hb3.size H3.out.1 (by have := HN.out; simp only [List.length_singleton]; omega) ?_
            intro v4 W4 o4 d4
            have hb4 := hb3.trans d4
            obtain ⟨A4, c4, hv4, _⟩ := o4.at_.form
            rw [List.length_append, List.length_singleton, ← HN.out] at hv4
            subst hv4
            have H4 := Lib.hid o4
            clear o4
            refine Shut.out hK _ _ hb4 (fun _ => ?_)
            clear hK K
            simp only [List.getElem_toArray, List.getElem_cons_succ, List.getElem_cons_zero, Act.put, List.setIfInBounds_toArray, List.set_cons_zero, List.set_cons_succ]
            refine wpAnyH_take (i := 6) (v := .slice A4 (n + 1) c4) rfl (by kernel_rfl) (by kernel_rfl) (by kernel_rfl) (fun _ _ _ h => h) (Or.inl ⟨by kernel_rfl, fun w' hSw => ?_⟩) hb4 ?_
            · go_simp
            simp only [List.getElem_toArray, List.getElem_cons_succ, List.getElem_cons_zero, Act.put, List.setIfInBounds_toArray, List.set_cons_zero, List.set_cons_succ]
            refine wpAnyH_done (by kernel_rfl) ?_ _
            go_wp2_with (fail)
            go_meet
            exact ⟨_, _, rfl, H4.out, hb4⟩
          exact AllReadyH.nil
        exact AllReadyH.nil
      exact AllReadyH.nil
    exact AllReadyH.nil
  case rest =>
    obtain ⟨A8, c8, rfl, o8, b8⟩ := hcut
    have hb0 := HQ.out.2.2.2.1
    have hret : PutPost l c a4 w (.returned (.tuple #[.slice A8 (n + 1) c8, .int .i64 ((n : Int) + 1), .nilIface])) wc :=
      ⟨_, _, by rw [HK.out.2.2.2.1], hb0.trans (b8.mono hb0.size), .inl ⟨_, HK.out.2.2.1, rfl, o8.wider hb0.size (Nat.le_refl _)⟩⟩
    clear o8 b8 hb0
    go_wp2_with (fail)
    go_ret3
    exact hret

theorem put_any (w : World) (lo hi : Nat) (v : Value) (l : List Cmd) (h : LedAt w lo hi v l) (hhi : hi ≤ w.heap.size) (c : Cmd) (pv : Value) (a4 : Addr) (h4 : w.cell? ⟨4, 0, none⟩ = some (errv a4)) (hpv : IntsAt w 0 w.heap.size pv c.parts) :
    Calls Tryd.prog 153 #[v, .agg (c.cells pv).toArray] w (PutPost l c a4 w) := by
  rcases idxN_cases l c.idn c.idb c.ids with hm | ⟨i, hi', _⟩
  · by_cases hl : 4096 ≤ l.length
    · exact put_full w lo hi v l h hhi c pv a4 h4 hm hl
    · exact put_more w lo hi v l h hhi c pv a4 hpv hm (by omega)
  · exact put_found w lo hi v l h hhi c pv a4 (by omega)
end Go.Proofs.YtnlncfjibbdimaaDoor

namespace Go.Proofs.YtnlncfjibbdimaaDoor
open Go.RowKit
set_option linter.unusedSimpArgs false
set_option linter.unusedVariables false

/-- A round that tells. -/
def Rnd.tell (r : Rnd) : Rnd :=
  if r.reads = true then { r with stage := 2 } else match putL r.led r.cmd with
    | some l => { r with stage := 2, led := l }
    | none => { r with stage := 4 }
/-- A promise's ledger, if it is newer. -/
def Rnd.newer (r : Rnd) (ar an : Int) (l : List Cmd) : Rnd := if ab ar an r.nr r.nn = true then { r with nr := ar, nn := an, led := l } else r
/-- Behind a promise that counts. -/
def Rnd.promised (r : Rnd) (n : Nat) (f : Nat → Bool) (j : Nat) (ar an : Int) (l : List Cmd) : Rnd := if half n ≤ (cnt n (upd f j true) : Nat) then (r.newer ar an l).tell else r.newer ar an l
/-- Who has answered behind a promise that counts. -/
def promF (n : Nat) (f : Nat → Bool) (j : Nat) : Nat → Bool := if half n ≤ (cnt n (upd f j true) : Nat) then fun _ => false else upd f j true

/-- What tell comes to. -/
def TellPost (B g ga n : Nat) (r : Rnd) (pv lv : Value) (w : World) (e : Ending) (w' : World) : Prop :=
  e = .returned (.tuple #[]) ∧ ∃ lv', RndAt w' B g ga n (fun _ => false) r.tell pv lv' ∧ Fr w.heap.size (fun k => k = g ∨ k = ga) w w' ∧ ((lv' = lv ∧ r.tell.led = r.led) ∨ OwnLed w' w.heap.size w'.heap.size lv' r.tell.led)

theorem RndAt.ne4 {w : World} {B g ga n : Nat} {f : Nat → Bool} {r : Rnd} {pv lv : Value} (h : RndAt w B g ga n f r pv lv) (hn : 0 < n) {q : Nat} {a : Addr} (hq : w.cell? ⟨q, 0, none⟩ = some (errv a)) : q ≠ g ∧ q ≠ ga := by
  refine ⟨fun e => ?_, fun e => ?_⟩
  · have : w.cell? ⟨g, 0, none⟩ = some (.slice (some ⟨ga, 0, none⟩) n n) := h.row.cell 0
    rw [← e, hq] at this
    cases this
  · have := h.ans.cell 0
    rw [bls_get hn, ← e, hq] at this
    cases this
theorem RndAt.sled2 {w : World} {B g ga n : Nat} {f : Nat → Bool} {r : Rnd} {pv lv lv' : Value} {l : List Cmd} (h : RndAt w B g ga n f r pv lv) (hl : LedAt w B w.heap.size lv' l) : RndAt (w.setCell ⟨g, 25, none⟩ lv') B g ga n f { r with led := l } pv lv' ∧ Fr w.heap.size (fun k => k = g) w (w.setCell ⟨g, 25, none⟩ lv') := by
  have hF : Fr w.heap.size (fun k => k = g) w (w.setCell ⟨g, 25, none⟩ lv') := (Fr.refl w.heap.size (fun k => k = g) w).setCell (p := ⟨g, 25, none⟩) (.inl rfl) _
  have h1 := h.hga
  have h2 := h.hg
  have h3 := h.hB
  refine ⟨⟨h.hg, h.hga, h.ne, Nat.le_trans h.hB hF.size, h.row.set_ 25 _, h.ans.far (p := ⟨g, 25, none⟩) h.ne.symm _, ?_, (hl.fr hF (Nat.le_refl _) (fun k q1 _ he => by omega)).wider (Nat.le_refl _) hF.size, h.sz⟩, hF⟩
  obtain ⟨p0, q1, q2, q3⟩ := h.parts
  exact ⟨p0, q1, q2, q3.fr hF (by omega) (fun k _ hk he => by omega)⟩
theorem RndAt.range {w : World} {B g ga n : Nat} {f : Nat → Bool} {r : Rnd} {pv lv : Value} (h : RndAt w B g ga n f r pv lv) : w.rangeAt g 1 (r.cmd.cells pv) := fun j v hv => by
  have hj : j < 18 := by have := (List.getElem?_eq_some_iff.1 hv).1; rwa [Cmd.cells_length] at this
  have := h.row.cell (1 + j)
  rw [this]
  simp only [Rnd.cells, List.getElem?_toArray]
  have e : 1 + j = j + 1 := by omega
  rw [e, List.getElem?_cons_succ, ← hv]
  simp only [Cmd.cells]
  rcases j with _ | _ | _ | _ | _ | _ | _ | _ | _ | _ | _ | _ | _ | _ | _ | _ | _ | _ | j <;> first | rfl | omega

set_option maxRecDepth 100000 in
set_option maxHeartbeats 1600000 in
theorem tell_reads (w : World) (B g ga n : Nat) (f : Nat → Bool) (r : Rnd) (pv lv : Value) (h : RndAt w B g ga n f r pv lv) (hn : 0 < n) (hr : r.reads = true) :
    Calls Tryd.prog 120 #[.pointer (some ⟨g, 0, none⟩)] w (TellPost B g ga n r pv lv w) := by
  have c22 : w.cell? ⟨g, 22, none⟩ = some (.int .i64 r.stage) := h.row.cell 22
  have f22 := h.row.frozen 22
  have hst := h.sst 2
  have c0 : (w.setCell ⟨g, 22, none⟩ (.int .i64 2)).cell? ⟨g, 0, none⟩ = some (.slice (some ⟨ga, 0, none⟩) n n) := hst.1.row.cell 0
  obtain ⟨W2, hcl, R2, F2⟩ := clear_bools hst.1 hn
  have d19 : W2.cell? ⟨g, 19, none⟩ = some (.bool r.reads) := R2.row.cell 19
  have F02 : Fr w.heap.size (fun k => k = g ∨ k = ga) w W2 := (hst.2.mono (Nat.le_refl _) (fun _ _ h => .inl h)).trans (F2.mono hst.2.size (fun _ _ h => .inr h))
  have hret : TellPost B g ga n r pv lv w (.returned (.tuple #[])) W2 := by
    refine ⟨rfl, lv, ?_, F02, .inl ⟨rfl, by unfold Rnd.tell; rw [if_pos hr]⟩⟩
    unfold Rnd.tell
    rw [if_pos hr]
    exact R2
  rw [hr] at d19
  clear h hst R2 F2 F02 hr
  go_enter Tryd.func120, Tryd.ntmps120
  go_wp2_with (fail)
  go_end0
  exact hret

set_option maxRecDepth 100000 in
set_option maxHeartbeats 1600000 in
theorem tell_some (w : World) (B g ga n : Nat) (f : Nat → Bool) (r : Rnd) (pv lv : Value) (h : RndAt w B g ga n f r pv lv) (hn : 0 < n) (hr : r.reads = false) (a4 : Addr) (h4 : w.cell? ⟨4, 0, none⟩ = some (errv a4)) (l : List Cmd) (hl : putL r.led r.cmd = some l) :
    Calls Tryd.prog 120 #[.pointer (some ⟨g, 0, none⟩)] w (TellPost B g ga n r pv lv w) := by
  have c22 : w.cell? ⟨g, 22, none⟩ = some (.int .i64 r.stage) := h.row.cell 22
  have f22 := h.row.frozen 22
  have hst := h.sst 2
  have c0 : (w.setCell ⟨g, 22, none⟩ (.int .i64 2)).cell? ⟨g, 0, none⟩ = some (.slice (some ⟨ga, 0, none⟩) n n) := hst.1.row.cell 0
  obtain ⟨W2, hcl, R2, F2⟩ := clear_bools hst.1 hn
  have d19 : W2.cell? ⟨g, 19, none⟩ = some (.bool r.reads) := R2.row.cell 19
  have F02 : Fr w.heap.size (fun k => k = g ∨ k = ga) w W2 := (hst.2.mono (Nat.le_refl _) (fun _ _ h => .inl h)).trans (F2.mono hst.2.size (fun _ _ h => .inr h))
  obtain ⟨A, cap, hlv, hl1, hl2, hl3⟩ := h.led.form
  obtain ⟨nl, hnl⟩ : ∃ nl, nl = r.led.length := ⟨_, rfl⟩
  rw [← hnl] at hlv
  subst hlv
  have hne := h.ne4 hn h4
  have h4l := World.block_lt_of_cell? w _ h4
  have hX : ∀ w', Below W2.heap.size W2 w' → (w'.cell? ⟨g, 25, none⟩ = some (.slice A nl cap) ∧ w'.rangeAt g 1 (r.cmd.cells pv)) := fun w' b => by
    have h' := R2.below b (Nat.le_refl _)
    exact ⟨h'.row.cell 25, h'.range⟩
  have k153 : ∀ w', Below W2.heap.size W2 w' → Calls Tryd.prog 153 #[.slice A nl cap, .agg (r.cmd.cells pv).toArray] w' (PutPost r.led r.cmd a4 w') := fun w' b => by
    have h' := R2.below b (Nat.le_refl _)
    obtain ⟨p0, q1, q2, q3⟩ := h'.parts
    exact put_any w' B w'.heap.size _ r.led h'.led (Nat.le_refl _) r.cmd pv a4 ((b.cell (p := ⟨4, 0, none⟩) (Nat.lt_of_lt_of_le h4l F02.size)).trans ((F02.cell (p := ⟨4, 0, none⟩) h4l (fun e => e.elim hne.1 hne.2)).trans h4)) (q3.wider (Nat.le_refl _) (by have := h'.hg; have := h'.hB; omega))
  have k153' : ∀ w', Below W2.heap.size W2 w' → Calls Tryd.prog 153 #[.slice A nl cap, .agg (r.cmd.cells pv).toArray] w' (fun e w1 => ∃ A1 k1 c1 z1, e = .returned (.tuple #[.slice A1 k1 c1, .int .i64 z1, .nilIface]) ∧ Below w'.heap.size w' w1 ∧ OwnLed w1 w'.heap.size w1.heap.size (.slice A1 k1 c1) l) := fun w' b => by
    refine (k153 w' b).mono ?_
    rintro e w1 ⟨v1, q1, rfl, b1, ⟨l', hl', hq, ho⟩ | ⟨hl', hq, hv⟩⟩
    · rw [hl] at hl'
      injection hl' with hl'
      subst hl' hq
      obtain ⟨A1, c1, rfl, _⟩ := ho.at_.form
      exact ⟨A1, _, c1, _, rfl, b1, ho⟩
    · rw [hl] at hl'; cases hl'
  have htl : r.tell = { r with stage := 2, led := l } := by unfold Rnd.tell; rw [hr, hl]; rfl
  have HX := Lib.hid (And.intro hX (And.intro k153' (And.intro R2 (And.intro F02 htl))))
  rw [hr] at d19
  clear h hst R2 F2 F02 hr hX k153 k153' h4l hne hl1 hl2 hl3 hnl htl hl h4
  go_enter Tryd.func120, Tryd.ntmps120
  go_upto_region 3 with (fail)
  clear c22 f22 c0 hcl d19
  have hBr : Below W2.heap.size W2 W2.drew := (Below.refl W2.heap.size W2).drew
  go_cut [2, 4] (fun v2 v4 wx => ∃ A1 k1 c1, v2 = .slice A1 k1 c1 ∧ v4 = .nilIface ∧ OwnLed wx W2.heap.size wx.heap.size (.slice A1 k1 c1) l ∧ Below W2.heap.size W2 wx)
  case first =>
    refine wp_region_held_drew (S := fun w' => Below W2.heap.size W2 w') (by kernel_rfl) hBr (fun _ => ?_)
    refine wpAnyH_take (i := 0) (v := .pointer (some ⟨g, 0, none⟩)) rfl (by kernel_rfl) (by kernel_rfl) (by kernel_rfl) (fun _ _ _ h => h) (Or.inl ⟨by kernel_rfl, fun w' hSw => ?_⟩) hBr ?_
    · go_simp
    try simp only [List.getElem_toArray, List.getElem_cons_succ, List.getElem_cons_zero, Act.put, List.setIfInBounds_toArray, List.set_cons_zero, List.set_cons_succ]
    refine wpAnyH_take (i := 1) (v := .pointer (some ⟨g, 0, none⟩)) rfl (by kernel_rfl) (by kernel_rfl) (by kernel_rfl) (fun _ _ _ h => h) (Or.inl ⟨by kernel_rfl, fun w' hSw => ?_⟩) hBr ?_
    · go_simp
    try simp only [List.getElem_toArray, List.getElem_cons_succ, List.getElem_cons_zero, Act.put, List.setIfInBounds_toArray, List.set_cons_zero, List.set_cons_succ]
    refine wpAnyH_take (i := 2) (v := .pointer (some ⟨g, 25, none⟩)) rfl (by kernel_rfl) (by kernel_rfl) (by kernel_rfl) (fun _ _ _ h => h) (Or.inl ⟨by kernel_rfl, fun w' hSw => ?_⟩) hBr ?_
    · go_simp
    try simp only [List.getElem_toArray, List.getElem_cons_succ, List.getElem_cons_zero, Act.put, List.setIfInBounds_toArray, List.set_cons_zero, List.set_cons_succ]
    refine wpAnyH_take (i := 3) (v := .slice A nl cap) rfl (by kernel_rfl) (by kernel_rfl) (by kernel_rfl) (fun _ _ _ h => h) (Or.inl ⟨by kernel_rfl, fun w' hSw => ?_⟩) hBr ?_
    · (have hcv := (HX.out.1 w' hSw).1; go_simp)
    try simp only [List.getElem_toArray, List.getElem_cons_succ, List.getElem_cons_zero, Act.put, List.setIfInBounds_toArray, List.set_cons_zero, List.set_cons_succ]
    refine wpAnyH_take (i := 4) (v := .pointer (some ⟨g, 0, none⟩)) rfl (by kernel_rfl) (by kernel_rfl) (by kernel_rfl) (fun _ _ _ h => h) (Or.inl ⟨by kernel_rfl, fun w' hSw => ?_⟩) hBr ?_
    · go_simp
    try simp only [List.getElem_toArray, List.getElem_cons_succ, List.getElem_cons_zero, Act.put, List.setIfInBounds_toArray, List.set_cons_zero, List.set_cons_succ]
    refine wpAnyH_take (i := 5) (v := .pointer (some ⟨g, 0, none⟩)) rfl (by kernel_rfl) (by kernel_rfl) (by kernel_rfl) (fun _ _ _ h => h) (Or.inl ⟨by kernel_rfl, fun w' hSw => ?_⟩) hBr ?_
    · go_simp
    try simp only [List.getElem_toArray, List.getElem_cons_succ, List.getElem_cons_zero, Act.put, List.setIfInBounds_toArray, List.set_cons_zero, List.set_cons_succ]
    refine wpAnyH_take (i := 6) (v := .pointer (some ⟨g, 1, none⟩)) rfl (by kernel_rfl) (by kernel_rfl) (by kernel_rfl) (fun _ _ _ h => h) (Or.inl ⟨by kernel_rfl, fun w' hSw => ?_⟩) hBr ?_
    · go_simp
    try simp only [List.getElem_toArray, List.getElem_cons_succ, List.getElem_cons_zero, Act.put, List.setIfInBounds_toArray, List.set_cons_zero, List.set_cons_succ]
    refine wpAnyH_take (i := 7) (v := .agg (r.cmd.cells pv).toArray) rfl (by kernel_rfl) (by kernel_rfl) (by kernel_rfl) (fun _ _ _ h => h) ?_ hBr ?_
    · refine yieldsIf_load_mid ?_ 81 (.tmp 23) ?_ g 1 ?_ (r.cmd.cells pv) _ (fun w' hw => (HX.out.1 w' hw).2) Tryd.underlying81 ?_ cmd_info
      · kernel_rfl
      · rfl
      · kernel_rfl
      · rfl
    try simp only [List.getElem_toArray, List.getElem_cons_succ, List.getElem_cons_zero, Act.put, List.setIfInBounds_toArray, List.set_cons_zero, List.set_cons_succ]
    refine wpAnyH_ready (rs := [8]) (by kernel_rfl) (by simp) ?_
    refine AllReadyH.cons rfl (fun K hK => ?_) ?_
    · go_simp
      refine (HX.out.2.1 _ hBr).mono ?_
      rintro e u1 ⟨A1, k1, c1, z1, rfl, d1, o1⟩
      have hb1 := hBr.trans (d1.mono hBr.size)
      have H1 := Lib.hid (o1.wider hBr.size (Nat.le_refl _))
      clear o1
      refine Shut.out hK _ _ hb1 (fun _ => ?_)
      clear hK K
      refine wpAnyH_take (i := 9) (v := .tuple #[.slice A1 k1 c1, .int .i64 z1, .nilIface]) rfl (by kernel_rfl) (by kernel_rfl) (by kernel_rfl) (fun _ _ _ h => h) (Or.inl ⟨by kernel_rfl, fun w' hSw => ?_⟩) hb1 ?_
      · go_simp
      try simp only [List.getElem_toArray, List.getElem_cons_succ, List.getElem_cons_zero, Act.put, List.setIfInBounds_toArray, List.set_cons_zero, List.set_cons_succ]
      refine wpAnyH_take (i := 10) (v := .slice A1 k1 c1) rfl (by kernel_rfl) (by kernel_rfl) (by kernel_rfl) (fun _ _ _ h => h) (Or.inl ⟨by kernel_rfl, fun w' hSw => ?_⟩) hb1 ?_
      · go_simp
      try simp only [List.getElem_toArray, List.getElem_cons_succ, List.getElem_cons_zero, Act.put, List.setIfInBounds_toArray, List.set_cons_zero, List.set_cons_succ]
      refine wpAnyH_take (i := 11) (v := .int .i64 z1) rfl (by kernel_rfl) (by kernel_rfl) (by kernel_rfl) (fun _ _ _ h => h) (Or.inl ⟨by kernel_rfl, fun w' hSw => ?_⟩) hb1 ?_
      · go_simp
      try simp only [List.getElem_toArray, List.getElem_cons_succ, List.getElem_cons_zero, Act.put, List.setIfInBounds_toArray, List.set_cons_zero, List.set_cons_succ]
      refine wpAnyH_take (i := 12) (v := .nilIface) rfl (by kernel_rfl) (by kernel_rfl) (by kernel_rfl) (fun _ _ _ h => h) (Or.inl ⟨by kernel_rfl, fun w' hSw => ?_⟩) hb1 ?_
      · go_simp
      try simp only [List.getElem_toArray, List.getElem_cons_succ, List.getElem_cons_zero, Act.put, List.setIfInBounds_toArray, List.set_cons_zero, List.set_cons_succ]
      refine wpAnyH_take (i := 13) (v := .slice A1 k1 c1) rfl (by kernel_rfl) (by kernel_rfl) (by kernel_rfl) (fun _ _ _ h => h) (Or.inl ⟨by kernel_rfl, fun w' hSw => ?_⟩) hb1 ?_
      · go_simp
      try simp only [List.getElem_toArray, List.getElem_cons_succ, List.getElem_cons_zero, Act.put, List.setIfInBounds_toArray, List.set_cons_zero, List.set_cons_succ]
      refine wpAnyH_take (i := 14) (v := .int .i64 z1) rfl (by kernel_rfl) (by kernel_rfl) (by kernel_rfl) (fun _ _ _ h => h) (Or.inl ⟨by kernel_rfl, fun w' hSw => ?_⟩) hb1 ?_
      · go_simp
      try simp only [List.getElem_toArray, List.getElem_cons_succ, List.getElem_cons_zero, Act.put, List.setIfInBounds_toArray, List.set_cons_zero, List.set_cons_succ]
      refine wpAnyH_take (i := 15) (v := .nilIface) rfl (by kernel_rfl) (by kernel_rfl) (by kernel_rfl) (fun _ _ _ h => h) (Or.inl ⟨by kernel_rfl, fun w' hSw => ?_⟩) hb1 ?_
      · go_simp
      try simp only [List.getElem_toArray, List.getElem_cons_succ, List.getElem_cons_zero, Act.put, List.setIfInBounds_toArray, List.set_cons_zero, List.set_cons_succ]
      refine wpAnyH_done (by kernel_rfl) ?_ _
      go_wp2_with (fail)
      go_meet
      exact ⟨_, _, _, rfl, rfl, H1.out, hb1⟩
    exact AllReadyH.nil
  case rest =>
    obtain ⟨A1, k1, c1, rfl, rfl, o1, b1⟩ := hcut
    have R3 := HX.out.2.2.1.below b1 (Nat.le_refl _)
    have c25 : wc.cell? ⟨g, 25, none⟩ = some (.slice A nl cap) := R3.row.cell 25
    have f25 := R3.row.frozen 25
    have hs := R3.sled2 (o1.at_.wider HX.out.2.2.1.hB (Nat.le_refl _))
    have hF2 : Fr w.heap.size (fun k => k = g ∨ k = ga) W2 (wc.setCell ⟨g, 25, none⟩ (.slice A1 k1 c1)) :=
      (Fr.of_below (b1.mono HX.out.2.2.2.1.size) _).trans (hs.2.mono (Nat.le_trans HX.out.2.2.2.1.size b1.size) (fun _ _ h => .inl h))
    have hret : TellPost B g ga n r pv (.slice A nl cap) w (.returned (.tuple #[])) (wc.setCell ⟨g, 25, none⟩ (.slice A1 k1 c1)) := by
      refine ⟨rfl, .slice A1 k1 c1, by rw [HX.out.2.2.2.2]; exact hs.1, HX.out.2.2.2.1.trans hF2, .inr ?_⟩
      rw [HX.out.2.2.2.2]
      exact ((o1.fr hs.2 (Nat.le_refl _) (fun k q1 _ he => by have := R3.hg; have := R3.hB; have := HX.out.2.2.1.hB; have := HX.out.2.2.1.hg; omega)).wider HX.out.2.2.2.1.size hs.2.size)
    clear hs hF2 R3 o1 b1
    go_wp2_with (fail)
    go_end0
    exact hret

set_option maxRecDepth 100000 in
set_option maxHeartbeats 1600000 in
theorem tell_none (w : World) (B g ga n : Nat) (f : Nat → Bool) (r : Rnd) (pv lv : Value) (h : RndAt w B g ga n f r pv lv) (hn : 0 < n) (hr : r.reads = false) (a4 : Addr) (h4 : w.cell? ⟨4, 0, none⟩ = some (errv a4)) (hl : putL r.led r.cmd = none) :
    Calls Tryd.prog 120 #[.pointer (some ⟨g, 0, none⟩)] w (TellPost B g ga n r pv lv w) := by
  have c22 : w.cell? ⟨g, 22, none⟩ = some (.int .i64 r.stage) := h.row.cell 22
  have f22 := h.row.frozen 22
  have hst := h.sst 2
  have c0 : (w.setCell ⟨g, 22, none⟩ (.int .i64 2)).cell? ⟨g, 0, none⟩ = some (.slice (some ⟨ga, 0, none⟩) n n) := hst.1.row.cell 0
  obtain ⟨W2, hcl, R2, F2⟩ := clear_bools hst.1 hn
  have d19 : W2.cell? ⟨g, 19, none⟩ = some (.bool r.reads) := R2.row.cell 19
  have F02 : Fr w.heap.size (fun k => k = g ∨ k = ga) w W2 := (hst.2.mono (Nat.le_refl _) (fun _ _ h => .inl h)).trans (F2.mono hst.2.size (fun _ _ h => .inr h))
  obtain ⟨A, cap, hlv, hl1, hl2, hl3⟩ := h.led.form
  obtain ⟨nl, hnl⟩ : ∃ nl, nl = r.led.length := ⟨_, rfl⟩
  rw [← hnl] at hlv
  subst hlv
  have hne := h.ne4 hn h4
  have h4l := World.block_lt_of_cell? w _ h4
  have hX : ∀ w', Below W2.heap.size W2 w' → (w'.cell? ⟨g, 25, none⟩ = some (.slice A nl cap) ∧ w'.rangeAt g 1 (r.cmd.cells pv)) := fun w' b => by
    have h' := R2.below b (Nat.le_refl _)
    exact ⟨h'.row.cell 25, h'.range⟩
  have k153 : ∀ w', Below W2.heap.size W2 w' → Calls Tryd.prog 153 #[.slice A nl cap, .agg (r.cmd.cells pv).toArray] w' (PutPost r.led r.cmd a4 w') := fun w' b => by
    have h' := R2.below b (Nat.le_refl _)
    obtain ⟨p0, q1, q2, q3⟩ := h'.parts
    exact put_any w' B w'.heap.size _ r.led h'.led (Nat.le_refl _) r.cmd pv a4 ((b.cell (p := ⟨4, 0, none⟩) (Nat.lt_of_lt_of_le h4l F02.size)).trans ((F02.cell (p := ⟨4, 0, none⟩) h4l (fun e => e.elim hne.1 hne.2)).trans h4)) (q3.wider (Nat.le_refl _) (by have := h'.hg; have := h'.hB; omega))
  have k153' : ∀ w', Below W2.heap.size W2 w' → Calls Tryd.prog 153 #[.slice A nl cap, .agg (r.cmd.cells pv).toArray] w' (fun e w1 => e = .returned (.tuple #[.slice none 0 0, .int .i64 (putN13 r.led r.cmd), errv a4]) ∧ Below w'.heap.size w' w1) := fun w' b => by
    refine (k153 w' b).mono ?_
    rintro e w1 ⟨v1, q1, rfl, b1, ⟨l', hl', hq, ho⟩ | ⟨hl', hq, hv⟩⟩
    · rw [hl] at hl'; cases hl'
    · subst hq hv
      exact ⟨rfl, b1⟩
  obtain ⟨z1, hz1⟩ : ∃ z1, z1 = putN13 r.led r.cmd := ⟨_, rfl⟩
  rw [← hz1] at k153'
  have htl : r.tell = { r with stage := 4 } := by unfold Rnd.tell; rw [hr, hl]; rfl
  have HX := Lib.hid (And.intro hX (And.intro k153' (And.intro R2 (And.intro F02 htl))))
  rw [hr] at d19
  clear h hst R2 F2 F02 hr hX k153 k153' h4l hne hl1 hl2 hl3 hnl htl hl h4 hz1
  go_enter Tryd.func120, Tryd.ntmps120
  go_upto_region 3 with (fail)
  clear c22 f22 c0 hcl d19
  have hBr : Below W2.heap.size W2 W2.drew := (Below.refl W2.heap.size W2).drew
  go_cut [2, 4] (fun v2 v4 wx => v4 = errv a4 ∧ Below W2.heap.size W2 wx)
  case first =>
    refine wp_region_held_drew (S := fun w' => Below W2.heap.size W2 w') (by kernel_rfl) hBr (fun _ => ?_)
    refine wpAnyH_take (i := 0) (v := .pointer (some ⟨g, 0, none⟩)) rfl (by kernel_rfl) (by kernel_rfl) (by kernel_rfl) (fun _ _ _ h => h) (Or.inl ⟨by kernel_rfl, fun w' hSw => ?_⟩) hBr ?_
    · go_simp
    try simp only [List.getElem_toArray, List.getElem_cons_succ, List.getElem_cons_zero, Act.put, List.setIfInBounds_toArray, List.set_cons_zero, List.set_cons_succ]
    refine wpAnyH_take (i := 1) (v := .pointer (some ⟨g, 0, none⟩)) rfl (by kernel_rfl) (by kernel_rfl) (by kernel_rfl) (fun _ _ _ h => h) (Or.inl ⟨by kernel_rfl, fun w' hSw => ?_⟩) hBr ?_
    · go_simp
    try simp only [List.getElem_toArray, List.getElem_cons_succ, List.getElem_cons_zero, Act.put, List.setIfInBounds_toArray, List.set_cons_zero, List.set_cons_succ]
    refine wpAnyH_take (i := 2) (v := .pointer (some ⟨g, 25, none⟩)) rfl (by kernel_rfl) (by kernel_rfl) (by kernel_rfl) (fun _ _ _ h => h) (Or.inl ⟨by kernel_rfl, fun w' hSw => ?_⟩) hBr ?_
    · go_simp
    try simp only [List.getElem_toArray, List.getElem_cons_succ, List.getElem_cons_zero, Act.put, List.setIfInBounds_toArray, List.set_cons_zero, List.set_cons_succ]
    refine wpAnyH_take (i := 3) (v := .slice A nl cap) rfl (by kernel_rfl) (by kernel_rfl) (by kernel_rfl) (fun _ _ _ h => h) (Or.inl ⟨by kernel_rfl, fun w' hSw => ?_⟩) hBr ?_
    · (have hcv := (HX.out.1 w' hSw).1; go_simp)
    try simp only [List.getElem_toArray, List.getElem_cons_succ, List.getElem_cons_zero, Act.put, List.setIfInBounds_toArray, List.set_cons_zero, List.set_cons_succ]
    refine wpAnyH_take (i := 4) (v := .pointer (some ⟨g, 0, none⟩)) rfl (by kernel_rfl) (by kernel_rfl) (by kernel_rfl) (fun _ _ _ h => h) (Or.inl ⟨by kernel_rfl, fun w' hSw => ?_⟩) hBr ?_
    · go_simp
    try simp only [List.getElem_toArray, List.getElem_cons_succ, List.getElem_cons_zero, Act.put, List.setIfInBounds_toArray, List.set_cons_zero, List.set_cons_succ]
    refine wpAnyH_take (i := 5) (v := .pointer (some ⟨g, 0, none⟩)) rfl (by kernel_rfl) (by kernel_rfl) (by kernel_rfl) (fun _ _ _ h => h) (Or.inl ⟨by kernel_rfl, fun w' hSw => ?_⟩) hBr ?_
    · go_simp
    try simp only [List.getElem_toArray, List.getElem_cons_succ, List.getElem_cons_zero, Act.put, List.setIfInBounds_toArray, List.set_cons_zero, List.set_cons_succ]
    refine wpAnyH_take (i := 6) (v := .pointer (some ⟨g, 1, none⟩)) rfl (by kernel_rfl) (by kernel_rfl) (by kernel_rfl) (fun _ _ _ h => h) (Or.inl ⟨by kernel_rfl, fun w' hSw => ?_⟩) hBr ?_
    · go_simp
    try simp only [List.getElem_toArray, List.getElem_cons_succ, List.getElem_cons_zero, Act.put, List.setIfInBounds_toArray, List.set_cons_zero, List.set_cons_succ]
    refine wpAnyH_take (i := 7) (v := .agg (r.cmd.cells pv).toArray) rfl (by kernel_rfl) (by kernel_rfl) (by kernel_rfl) (fun _ _ _ h => h) ?_ hBr ?_
    · refine yieldsIf_load_mid ?_ 81 (.tmp 23) ?_ g 1 ?_ (r.cmd.cells pv) _ (fun w' hw => (HX.out.1 w' hw).2) Tryd.underlying81 ?_ cmd_info
      · kernel_rfl
      · rfl
      · kernel_rfl
      · rfl
    try simp only [List.getElem_toArray, List.getElem_cons_succ, List.getElem_cons_zero, Act.put, List.setIfInBounds_toArray, List.set_cons_zero, List.set_cons_succ]
    refine wpAnyH_ready (rs := [8]) (by kernel_rfl) (by simp) ?_
    refine AllReadyH.cons rfl (fun K hK => ?_) ?_
    · go_simp
      refine (HX.out.2.1 _ hBr).mono ?_
      rintro e u1 ⟨rfl, d1⟩
      have hb1 := hBr.trans (d1.mono hBr.size)
      refine Shut.out hK _ _ hb1 (fun _ => ?_)
      clear hK K
      refine wpAnyH_take (i := 9) (v := .tuple #[.slice none 0 0, .int .i64 z1, errv a4]) rfl (by kernel_rfl) (by kernel_rfl) (by kernel_rfl) (fun _ _ _ h => h) (Or.inl ⟨by kernel_rfl, fun w' hSw => ?_⟩) hb1 ?_
      · go_simp
      try simp only [List.getElem_toArray, List.getElem_cons_succ, List.getElem_cons_zero, Act.put, List.setIfInBounds_toArray, List.set_cons_zero, List.set_cons_succ]
      refine wpAnyH_take (i := 10) (v := .slice none 0 0) rfl (by kernel_rfl) (by kernel_rfl) (by kernel_rfl) (fun _ _ _ h => h) (Or.inl ⟨by kernel_rfl, fun w' hSw => ?_⟩) hb1 ?_
      · go_simp
      try simp only [List.getElem_toArray, List.getElem_cons_succ, List.getElem_cons_zero, Act.put, List.setIfInBounds_toArray, List.set_cons_zero, List.set_cons_succ]
      refine wpAnyH_take (i := 11) (v := .int .i64 z1) rfl (by kernel_rfl) (by kernel_rfl) (by kernel_rfl) (fun _ _ _ h => h) (Or.inl ⟨by kernel_rfl, fun w' hSw => ?_⟩) hb1 ?_
      · go_simp
      try simp only [List.getElem_toArray, List.getElem_cons_succ, List.getElem_cons_zero, Act.put, List.setIfInBounds_toArray, List.set_cons_zero, List.set_cons_succ]
      refine wpAnyH_take (i := 12) (v := errv a4) rfl (by kernel_rfl) (by kernel_rfl) (by kernel_rfl) (fun _ _ _ h => h) (Or.inl ⟨by kernel_rfl, fun w' hSw => ?_⟩) hb1 ?_
      · go_simp
      try simp only [List.getElem_toArray, List.getElem_cons_succ, List.getElem_cons_zero, Act.put, List.setIfInBounds_toArray, List.set_cons_zero, List.set_cons_succ]
      refine wpAnyH_take (i := 13) (v := .slice none 0 0) rfl (by kernel_rfl) (by kernel_rfl) (by kernel_rfl) (fun _ _ _ h => h) (Or.inl ⟨by kernel_rfl, fun w' hSw => ?_⟩) hb1 ?_
      · go_simp
      try simp only [List.getElem_toArray, List.getElem_cons_succ, List.getElem_cons_zero, Act.put, List.setIfInBounds_toArray, List.set_cons_zero, List.set_cons_succ]
      refine wpAnyH_take (i := 14) (v := .int .i64 z1) rfl (by kernel_rfl) (by kernel_rfl) (by kernel_rfl) (fun _ _ _ h => h) (Or.inl ⟨by kernel_rfl, fun w' hSw => ?_⟩) hb1 ?_
      · go_simp
      try simp only [List.getElem_toArray, List.getElem_cons_succ, List.getElem_cons_zero, Act.put, List.setIfInBounds_toArray, List.set_cons_zero, List.set_cons_succ]
      refine wpAnyH_take (i := 15) (v := errv a4) rfl (by kernel_rfl) (by kernel_rfl) (by kernel_rfl) (fun _ _ _ h => h) (Or.inl ⟨by kernel_rfl, fun w' hSw => ?_⟩) hb1 ?_
      · go_simp
      try simp only [List.getElem_toArray, List.getElem_cons_succ, List.getElem_cons_zero, Act.put, List.setIfInBounds_toArray, List.set_cons_zero, List.set_cons_succ]
      refine wpAnyH_done (by kernel_rfl) ?_ _
      go_wp2_with (fail)
      go_meet
      exact ⟨rfl, hb1⟩
    exact AllReadyH.nil
  case rest =>
    obtain ⟨rfl, b1⟩ := hcut
    have R3 := HX.out.2.2.1.below b1 (Nat.le_refl _)
    have c22 : wc.cell? ⟨g, 22, none⟩ = some (.int .i64 2) := R3.row.cell 22
    have f22 := R3.row.frozen 22
    have hs := R3.sst 4
    have hF2 : Fr w.heap.size (fun k => k = g ∨ k = ga) W2 (wc.setCell ⟨g, 22, none⟩ (.int .i64 4)) :=
      (Fr.of_below (b1.mono HX.out.2.2.2.1.size) _).trans (hs.2.mono (Nat.le_trans HX.out.2.2.2.1.size b1.size) (fun _ _ h => .inl h))
    have hret : TellPost B g ga n r pv (.slice A nl cap) w (.returned (.tuple #[])) (wc.setCell ⟨g, 22, none⟩ (.int .i64 4)) := by
      refine ⟨rfl, .slice A nl cap, by rw [HX.out.2.2.2.2]; exact hs.1, HX.out.2.2.2.1.trans hF2, .inl ⟨rfl, by rw [HX.out.2.2.2.2]⟩⟩
    clear hs hF2 R3 b1
    go_wp2_with (fail)
    go_end0
    exact hret

theorem tell_any (w : World) (B g ga n : Nat) (f : Nat → Bool) (r : Rnd) (pv lv : Value) (h : RndAt w B g ga n f r pv lv) (hn : 0 < n) (a4 : Addr) (h4 : w.cell? ⟨4, 0, none⟩ = some (errv a4)) :
    Calls Tryd.prog 120 #[.pointer (some ⟨g, 0, none⟩)] w (TellPost B g ga n r pv lv w) := by
  cases hr : r.reads with
  | true => exact tell_reads w B g ga n f r pv lv h hn hr
  | false => cases hl : putL r.led r.cmd with
    | some l => exact tell_some w B g ga n f r pv lv h hn hr a4 h4 l hl
    | none => exact tell_none w B g ga n f r pv lv h hn hr a4 h4 hl
end Go.Proofs.YtnlncfjibbdimaaDoor

namespace Go.Proofs.YtnlncfjibbdimaaDoor
open Go.RowKit
set_option linter.unusedSimpArgs false
set_option linter.unusedVariables false

theorem blk_ne13 {w : World} {g h : Nat} {t u : TypeId} {a b : Array Value} (h1 : Blk w g t a) (h2 : Blk w h u b) (hne : t ≠ u) : g ≠ h := fun e => by
  subst e
  unfold Blk at h1 h2
  rw [h1] at h2
  injection h2 with h2
  injection h2 with _ h2
  exact hne h2
theorem bal_info13 : (Tryd.prog.info? 23).map (·.size) = some 2 := by kernel_rfl
/-- What Promise answers. -/
def PromPost (B g ga n : Nat) (f : Nat → Bool) (r : Rnd) (pv lv : Value) (from_ br bn ar an : Int) (l : List Cmd) (w : World) (e : Ending) (w' : World) : Prop :=
  (¬ fitsR r n f 1 from_ br bn ∧ e = .returned (.bool false) ∧ Below w.heap.size w w') ∨
  (r.stage = 1 ∧ (br = r.br ∧ bn = r.bn) ∧ ∃ j : Nat, from_ = j ∧ j < n ∧ f j = false ∧ e = .returned (.bool true) ∧
    ∃ lv', RndAt w' B g ga n (promF n f j) (r.promised n f j ar an l) pv lv' ∧ Fr w.heap.size (fun k => k = g ∨ k = ga) w w' ∧ ((lv' = lv ∧ (r.promised n f j ar an l).led = r.led) ∨ OwnLed w' w.heap.size w'.heap.size lv' (r.promised n f j ar an l).led))

/-- The end of Promise: behind the newest. -/
theorem PromPost.last {B g ga n : Nat} {f : Nat → Bool} {r : Rnd} {pv lv lv1 : Value} {br bn ar an : Int} {l : List Cmd} {w w2 w3 : World} {j : Nat} (hs : r.stage = 1) (hb : br = r.br ∧ bn = r.bn) (hj : j < n) (hf : f j = false) (R2 : RndAt w2 B g ga n (upd f j true) (r.newer ar an l) pv lv1)
    (F2 : Fr w.heap.size (fun k => k = g ∨ k = ga) w w2) (hled : (lv1 = lv ∧ (r.newer ar an l).led = r.led) ∨ OwnLed w2 w.heap.size w2.heap.size lv1 (r.newer ar an l).led) (b3 : Below w2.heap.size w2 w3) (hm : ¬ half n ≤ (cnt n (upd f j true) : Nat)) :
    PromPost B g ga n f r pv lv j br bn ar an l w (.returned (.bool true)) w3 := by
  refine .inr ⟨hs, hb, j, rfl, hj, hf, rfl, lv1, ?_, F2.trans ((Fr.of_below b3 _).mono F2.size (fun _ _ h => h)), ?_⟩
  · unfold promF Rnd.promised
    rw [if_neg hm, if_neg hm]
    exact R2.below b3 (Nat.le_refl _)
  · unfold Rnd.promised
    rw [if_neg hm]
    rcases hled with h | h
    · exact .inl h
    · exact .inr ((h.fr (Fr.of_below b3 (fun _ => False)) (Nat.le_refl _) (fun _ _ _ h => h)).wider (Nat.le_refl _) b3.size)
theorem PromPost.tells {B g ga n : Nat} {f : Nat → Bool} {r : Rnd} {pv lv lv1 : Value} {br bn ar an : Int} {l : List Cmd} {w w2 w3 w4 : World} {e : Ending} {j : Nat} (hs : r.stage = 1) (hb : br = r.br ∧ bn = r.bn) (hj : j < n) (hf : f j = false) (hgw : g < w.heap.size) (hgaw : ga < w.heap.size)
    (F2 : Fr w.heap.size (fun k => k = g ∨ k = ga) w w2) (hled : (lv1 = lv ∧ (r.newer ar an l).led = r.led) ∨ OwnLed w2 w.heap.size w2.heap.size lv1 (r.newer ar an l).led) (b3 : Below w2.heap.size w2 w3) (hm : half n ≤ (cnt n (upd f j true) : Nat)) (ht : TellPost B g ga n (r.newer ar an l) pv lv1 w3 e w4) :
    PromPost B g ga n f r pv lv j br bn ar an l w (.returned (.bool true)) w4 := by
  obtain ⟨_, lv', R4, F4, hl⟩ := ht
  have F3 := F2.trans ((Fr.of_below b3 (fun k => k = g ∨ k = ga)).mono F2.size (fun _ _ h => h))
  refine .inr ⟨hs, hb, j, rfl, hj, hf, rfl, lv', ?_, F3.trans (F4.mono F3.size (fun _ _ h => h)), ?_⟩
  · unfold promF Rnd.promised
    rw [if_pos hm, if_pos hm]
    exact R4
  · unfold Rnd.promised
    rw [if_pos hm]
    rcases hl with ⟨h1, h2⟩ | h
    · rcases hled with ⟨k1, k2⟩ | k
      · exact .inl ⟨h1.trans k1, h2.trans k2⟩
      · right
        rw [h1, h2]
        have k3 := (k.fr (Fr.of_below b3 (fun _ => False)) (Nat.le_refl _) (fun _ _ _ h => h)).wider (Nat.le_refl _) b3.size
        exact (k3.fr F4 (Nat.le_refl _) (fun q q1 _ hq => by omega)).wider (Nat.le_refl _) F4.size
    · exact .inr (h.wider F3.size (Nat.le_refl _))
theorem RndAt.snew {w : World} {B g ga n : Nat} {f : Nat → Bool} {r : Rnd} {pv lv lv' : Value} {l : List Cmd} (h : RndAt w B g ga n f r pv lv) (hl : LedAt w B w.heap.size lv' l) (ar an : Int) :
    RndAt (((w.setCell ⟨g, 23, none⟩ (.int .i64 ar)).setCell ⟨g, 24, none⟩ (.int .i64 an)).setCell ⟨g, 25, none⟩ lv') B g ga n f { r with nr := ar, nn := an, led := l } pv lv' ∧
    Fr w.heap.size (fun k => k = g) w (((w.setCell ⟨g, 23, none⟩ (.int .i64 ar)).setCell ⟨g, 24, none⟩ (.int .i64 an)).setCell ⟨g, 25, none⟩ lv') := by
  have h1 := h.hg
  have h2 := h.hB
  have a := h.snr ar
  have b := a.1.snn an
  have s1 := a.2.trans (b.2.mono a.2.size (fun _ _ h => h))
  have hl' : LedAt ((w.setCell ⟨g, 23, none⟩ (.int .i64 ar)).setCell ⟨g, 24, none⟩ (.int .i64 an)) B ((w.setCell ⟨g, 23, none⟩ (.int .i64 ar)).setCell ⟨g, 24, none⟩ (.int .i64 an)).heap.size lv' l :=
    (hl.fr s1 (Nat.le_refl _) (fun k q1 _ he => by omega)).wider (Nat.le_refl _) s1.size
  have c := b.1.sled2 hl'
  exact ⟨c.1, s1.trans (c.2.mono s1.size (fun _ _ h => h))⟩

set_option maxRecDepth 100000 in
set_option maxHeartbeats 3200000 in
theorem promise_any (w : World) (B g ga n : Nat) (f : Nat → Bool) (r : Rnd) (pv lv : Value) (h : RndAt w B g ga n f r pv lv) (hn : 0 < n) (from_ br bn ar an : Int) (lo hi : Nat) (lva : Value) (l : List Cmd) (hL : LedAt w lo hi lva l) (hhi : hi ≤ w.heap.size) (hlo : ga < lo ∨ hi ≤ ga) (a4 : Addr) (h4 : w.cell? ⟨4, 0, none⟩ = some (errv a4)) :
    Calls Tryd.prog 58 #[.pointer (some ⟨g, 0, none⟩), .int .i64 from_, .agg #[.int .i64 br, .int .i64 bn], .agg #[.int .i64 ar, .int .i64 an], lva] w (PromPost B g ga n f r pv lv from_ br bn ar an l w) := by
  obtain ⟨W, hW⟩ : ∃ W, W = (w.alloc (.cells #[.int .i64 br, .int .i64 bn] 23)).alloc (.cells #[.int .i64 ar, .int .i64 an] 23) := ⟨_, rfl⟩
  have bA : Below w.heap.size w W := by rw [hW]; exact ((Below.refl _ _).alloc (Nat.le_refl _) _).alloc (by simp) _
  have hX : Blk W w.heap.size 23 #[.int .i64 br, .int .i64 bn] := by rw [hW]; exact (Blk.new w 23 _).alloc _
  have hY : Blk W (w.heap.size + 1) 23 #[.int .i64 ar, .int .i64 an] := by rw [hW]; exact Blk.new1 w _ 23 _
  have x0 := hX.cell 0
  have x1 := hX.cell 1
  have hgB := h.hg
  have hgaB := h.hga
  have hBw := h.hB
  have h4l := World.block_lt_of_cell? w _ h4
  have hne := h.ne4 hn h4
  have RW := h.below bA (Nat.le_refl _)
  have HG := Lib.hid (show g < w.heap.size ∧ ga < w.heap.size from ⟨by omega, by omega⟩)
  have k117 := hear_any W B g ga n f r pv lv RW 1 from_ br bn
  have hLW : LedAt W lo hi lva l := hL.fr (Fr.of_below bA (fun _ => False)) hhi (fun _ _ _ h => h)
  obtain ⟨A, cap, rfl, _⟩ := hL.form
  obtain ⟨nl, hnl⟩ : ∃ nl, nl = l.length := ⟨_, rfl⟩
  rw [← hnl] at hLW ⊢
  have HN := Lib.hid hnl
  have h4W : W.cell? ⟨4, 0, none⟩ = some (errv a4) := (bA.cell (p := ⟨4, 0, none⟩) h4l).trans h4
  have HK := Lib.hid (And.intro k117 (And.intro bA (And.intro hLW (And.intro hY (And.intro h4W (And.intro hne (And.intro (Nat.lt_of_lt_of_le h4l bA.size) (And.intro hhi hlo))))))))
  clear h bA hX k117 hLW hY hL RW hhi hlo h4 h4W hne h4l hnl
  go_enter Tryd.func58, Tryd.ntmps58
  go_upto_region 1 with (fail)
  rw [← hW]
  clear hW
  go_upto_region 3 with (first | (go_at_call 117; refine HK.out.1.mono ?_; rintro e w1 (⟨hf, rfl, b1⟩ | ⟨hs, hb, j, rfl, hj, hfj, rfl, R1, F1⟩)) | fail)
  · go_wp2_with (fail)
    go_ret
    exact .inl ⟨hf, rfl, HK.out.2.1.trans (b1.mono HK.out.2.1.size)⟩
  · obtain ⟨y, hy⟩ : ∃ y, y = w.heap.size + 1 := ⟨_, rfl⟩
    have hY1 : Blk w1 y 23 #[.int .i64 ar, .int .i64 an] := by rw [hy]; exact HK.out.2.2.2.1.fr F1 HK.out.2.2.2.1.lt (by omega)
    have hL1 : LedAt w1 lo hi (.slice A nl cap) l := HK.out.2.2.1.fr F1 (Nat.le_trans HK.out.2.2.2.2.2.2.2.1 HK.out.2.1.size) (fun k h1 h2 he => by have := HK.out.2.2.2.2.2.2.2.2; omega)
    have h41 : w1.cell? ⟨4, 0, none⟩ = some (errv a4) := (F1.cell (p := ⟨4, 0, none⟩) HK.out.2.2.2.2.2.2.1 HK.out.2.2.2.2.2.1.2).trans HK.out.2.2.2.2.1
    rw [← hy]
    have F01 : Fr w.heap.size (fun k => k = g ∨ k = ga) w w1 := (Fr.of_below HK.out.2.1 _).trans (F1.mono HK.out.2.1.size (fun _ _ h => .inr h))
    have cY : ∀ d os i, (Go.Sort.grow (redrawn w1 d) os).cell? ⟨y, i, none⟩ = (#[.int .i64 ar, .int .i64 an] : Array Value)[i]? := fun d os => (hY1.below (below_regrown w1 d os) hY1.lt).cell
    have c23 : ∀ d os, (Go.Sort.grow (redrawn w1 d) os).cell? ⟨g, 23, none⟩ = some (.int .i64 r.nr) := fun d os => (R1.below (below_regrown w1 d os) (Nat.le_refl _)).row.cell 23
    have c24 : ∀ d os, (Go.Sort.grow (redrawn w1 d) os).cell? ⟨g, 24, none⟩ = some (.int .i64 r.nn) := fun d os => (R1.below (below_regrown w1 d os) (Nat.le_refl _)).row.cell 24
    have hhi1 : hi ≤ w1.heap.size := Nat.le_trans HK.out.2.2.2.2.2.2.2.1 F01.size
    have h4l1 : 4 < w1.heap.size := Nat.lt_of_lt_of_le HK.out.2.2.2.2.2.2.1 F1.size
    have H1 := Lib.hid (And.intro R1 (And.intro F01 (And.intro hL1 (And.intro h41 (And.intro hY1 (And.intro hs (And.intro hb (And.intro hfj (And.intro hhi1 h4l1)))))))))
    clear R1 F1 F01 hL1 h41 hY1 hs hb hfj hy x0 x1 hhi1 h4l1 hgB hgaB hBw
    cases hab : ab ar an r.nr r.nn with
    | false =>
      have k23 : ∀ W, Calls Tryd.prog 23 #[.agg #[.int .i64 ar, .int .i64 an], .agg #[.int .i64 r.nr, .int .i64 r.nn]] W fun e w' => e = .returned (.bool false) ∧ Below W.heap.size W w' := fun W => by rw [← hab]; exact above_any ar an r.nr r.nn W
      have hnew : r.newer ar an l = r := by unfold Rnd.newer; rw [hab]; rfl
      have HA := Lib.hid hnew
      clear hab hnew
      try simp only [List.cons_append, List.nil_append, List.append_eq]
      refine wp_region_quiet_cheap (by kernel_rfl) (by kernel_rfl) (by kernel_rfl) (by kernel_rfl) ?_
      repeat (go_big_quiet_step (first | (with_reducible exact Calls.regrown_of (k23 _))))
      refine wpQuiet_nil ?_
      intro _ hw'
      obtain ⟨⟨dq, osq⟩, hw''⟩ := hw'
      subst hw''
      clear cY c23 c24 k23
      obtain ⟨w2, hw2⟩ : ∃ w2, w2 = Go.Sort.grow (redrawn w1 dq) osq := ⟨_, rfl⟩
      have b2 : Below w1.heap.size w1 w2 := by rw [hw2]; exact below_regrown w1 dq osq
      rw [← hw2]
      clear hw2
      have R2 := H1.out.1.below b2 (Nat.le_refl _)
      have F2 := H1.out.2.1.trans ((Fr.of_below b2 (fun k => k = g ∨ k = ga)).mono H1.out.2.1.size (fun _ _ h => h))
      have h42 : w2.cell? ⟨4, 0, none⟩ = some (errv a4) := (b2.cell (p := ⟨4, 0, none⟩) H1.out.2.2.2.2.2.2.2.2.2).trans H1.out.2.2.2.1
      have R2' : RndAt w2 B g ga n (upd f j true) (r.newer ar an l) pv lv := by rw [HA.out]; exact R2
      have hled : (lv = lv ∧ (r.newer ar an l).led = r.led) ∨ OwnLed w2 w.heap.size w2.heap.size lv (r.newer ar an l).led := .inl ⟨rfl, by rw [HA.out]⟩
      have k119 := most_any w2 B g ga n (upd f j true) (r.newer ar an l) pv lv R2'
      by_cases hm : half n ≤ (cnt n (upd f j true) : Nat)
      · rw [decide_eq_true hm] at k119
        have k120 : ∀ w3, Below w2.heap.size w2 w3 → Calls Tryd.prog 120 #[.pointer (some ⟨g, 0, none⟩)] w3 (TellPost B g ga n (r.newer ar an l) pv lv w3) := fun w3 b =>
          tell_any w3 B g ga n _ _ pv _ (R2'.below b (Nat.le_refl _)) hn a4 ((b.cell (p := ⟨4, 0, none⟩) (World.block_lt_of_cell? w2 _ h42)).trans h42)
        have hbw : B ≤ w2.heap.size := R2'.hB
        have hret : ∀ w3 w4 e, Below w2.heap.size w2 w3 → TellPost B g ga n (r.newer ar an l) pv lv w3 e w4 → PromPost B g ga n f r pv lv j br bn ar an l w (.returned (.bool true)) w4 := fun w3 w4 e b ht =>
          PromPost.tells H1.out.2.2.2.2.2.1 H1.out.2.2.2.2.2.2.1 hj H1.out.2.2.2.2.2.2.2.1 HG.out.1 HG.out.2 F2 hled b hm ht
        have HT := Lib.hid (And.intro k119 (And.intro k120 hret))
        clear k119 k120 hret hm R2' F2 hled h42
        go_wp2_with (first
          | (go_at_call 119; refine HT.out.1.mono ?_; rintro e w3 ⟨rfl, b3⟩; have H3 := Lib.hid b3; clear b3)
          | (go_at_call 120; refine (HT.out.2.1 w3 H3.out).mono ?_; rintro e w4 ht; obtain rfl := ht.1; have H4 := Lib.hid ht; clear ht)
          | fail)
        go_ret
        exact HT.out.2.2 w3 w4 _ H3.out H4.out
      · rw [decide_eq_false hm] at k119
        have hret : ∀ w3, Below w2.heap.size w2 w3 → PromPost B g ga n f r pv lv j br bn ar an l w (.returned (.bool true)) w3 := fun w3 b =>
          PromPost.last H1.out.2.2.2.2.2.1 H1.out.2.2.2.2.2.2.1 hj H1.out.2.2.2.2.2.2.2.1 R2' F2 hled b hm
        have HT := Lib.hid (And.intro k119 hret)
        clear k119 hret hm R2' F2 hled h42
        go_wp2_with (first
          | (go_at_call 119; refine HT.out.1.mono ?_; rintro e w3 ⟨rfl, b3⟩; have H3 := Lib.hid b3; clear b3)
          | fail)
        go_ret
        exact HT.out.2 w3 H3.out
    | true =>
      have k23 : ∀ W, Calls Tryd.prog 23 #[.agg #[.int .i64 ar, .int .i64 an], .agg #[.int .i64 r.nr, .int .i64 r.nn]] W fun e w' => e = .returned (.bool true) ∧ Below W.heap.size W w' := fun W => by rw [← hab]; exact above_any ar an r.nr r.nn W
      have hnew : r.newer ar an l = { r with nr := ar, nn := an, led := l } := by unfold Rnd.newer; rw [hab]; rfl
      have HA := Lib.hid hnew
      clear hab hnew
      try simp only [List.cons_append, List.nil_append, List.append_eq]
      refine wp_region_quiet_cheap (by kernel_rfl) (by kernel_rfl) (by kernel_rfl) (by kernel_rfl) ?_
      repeat (go_big_quiet_step (first | (with_reducible exact Calls.regrown_of (k23 _))))
      refine wpQuiet_nil ?_
      intro _ hw'
      obtain ⟨⟨dq, osq⟩, hw''⟩ := hw'
      subst hw''
      clear cY c23 c24 k23
      obtain ⟨w2, hw2⟩ : ∃ w2, w2 = Go.Sort.grow (redrawn w1 dq) osq := ⟨_, rfl⟩
      have b2 : Below w1.heap.size w1 w2 := by rw [hw2]; exact below_regrown w1 dq osq
      rw [← hw2]
      clear hw2
      have R2 := H1.out.1.below b2 (Nat.le_refl _)
      have F2 := H1.out.2.1.trans ((Fr.of_below b2 (fun k => k = g ∨ k = ga)).mono H1.out.2.1.size (fun _ _ h => h))
      have h42 : w2.cell? ⟨4, 0, none⟩ = some (errv a4) := (b2.cell (p := ⟨4, 0, none⟩) H1.out.2.2.2.2.2.2.2.2.2).trans H1.out.2.2.2.1
      have Y2 := H1.out.2.2.2.2.1.below b2 H1.out.2.2.2.2.1.lt
      have L2 := H1.out.2.2.1.fr (Fr.of_below b2 (fun _ => False)) H1.out.2.2.2.2.2.2.2.2.1 (fun _ _ _ h => h)
      have hhi2 := Nat.le_trans H1.out.2.2.2.2.2.2.2.2.1 b2.size
      have k118 : ∀ W', Below w2.heap.size w2 W' → Calls Tryd.prog 118 #[.slice A nl cap] W' (CopyPost W' l) := fun W' b => copied118_any W' lo hi _ l (L2.fr (Fr.of_below b (fun _ => False)) hhi2 (fun _ _ _ h => h)) (Nat.le_trans hhi2 b.size)
      have hYs : y ≠ g ∧ y < w2.heap.size ∧ ∀ W', Below w2.heap.size w2 W' → W'.cell? ⟨y, 0, none⟩ = some (.int .i64 ar) ∧ W'.cell? ⟨y, 1, none⟩ = some (.int .i64 an) := ⟨blk_ne13 Y2 R2.row (by decide), Y2.lt, fun W' b => ⟨(Y2.below b Y2.lt).cell 0, (Y2.below b Y2.lt).cell 1⟩⟩
      have H2 := Lib.hid (And.intro R2 (And.intro F2 (And.intro h42 (And.intro k118 hYs))))
      clear R2 F2 h42 Y2 L2 hhi2 k118 hYs b2
      go_upto_region 4 with (fail)
      have hBr : Below w2.heap.size w2 w2.drew := (Below.refl w2.heap.size w2).drew
      have hgw2 := H2.out.1.hg
      have hBw2 := H2.out.1.hB
      go_cut [10] (fun v10 wx => ∃ A1 c1, v10 = .bool false ∧ RndAt wx B g ga n (upd f j true) (r.newer ar an l) pv (.slice A1 nl c1) ∧ Fr w.heap.size (fun k => k = g ∨ k = ga) w wx ∧ OwnLed wx w.heap.size wx.heap.size (.slice A1 nl c1) (r.newer ar an l).led ∧ wx.cell? ⟨4, 0, none⟩ = some (errv a4))
      case first =>
        have hgy : ¬ y = g := H2.out.2.2.2.2.1
        have hgy2 : ¬ g = y := fun e => hgy e.symm
        have hyB : y < w2.heap.size := H2.out.2.2.2.2.2.1
        have cy : ∀ W', Below w2.heap.size w2 W' → W'.cell? ⟨y, 0, none⟩ = some (.int .i64 ar) ∧ W'.cell? ⟨y, 1, none⟩ = some (.int .i64 an) := H2.out.2.2.2.2.2.2
        obtain ⟨k1, k2⟩ := cy w2 (Below.refl _ _)
        have HY := Lib.hid cy
        clear cy
        go_region_held3 (fun w' => w'.cell? ⟨y, 0, none⟩ = some (.int .i64 ar) ∧ w'.cell? ⟨y, 1, none⟩ = some (.int .i64 an)) (go_keep)
          (first
            | (go_at_call 118
               refine (H2.out.2.2.2.1 _ hBr).mono ?_
               rintro e u1 ⟨v1, rfl, o1, d1⟩
               have hb1 := hBr.trans (d1.mono hBr.size)
               obtain ⟨A1, c1, hv1, _⟩ := o1.at_.form
               rw [← HN.out] at hv1
               subst hv1
               have R1 := H2.out.1.below hb1 (Nat.le_refl _)
               obtain ⟨k1', k2'⟩ := HY.out _ hb1
               have c23 : u1.cell? ⟨g, 23, none⟩ = some (.int .i64 r.nr) := R1.row.cell 23
               have c24 : u1.cell? ⟨g, 24, none⟩ = some (.int .i64 r.nn) := R1.row.cell 24
               have c25 : u1.cell? ⟨g, 25, none⟩ = some lv := R1.row.cell 25
               have f23 := R1.row.frozen 23
               have f24 := R1.row.frozen 24
               have f25 := R1.row.frozen 25
               have H3 := Lib.hid (And.intro (o1.wider hBr.size (Nat.le_refl _)) (And.intro hb1 R1))
               clear o1 d1 R1))
        clear c23 c24 c25 f23 f24 f25
        go_wp2_with (fail)
        go_meet
        have hsn := H3.out.2.2.snew (H3.out.1.at_.wider H2.out.1.hB (Nat.le_refl _)) ar an
        have F2' := H2.out.2.1.trans ((Fr.of_below H3.out.2.1 (fun k => k = g ∨ k = ga)).mono H2.out.2.1.size (fun _ _ h => h))
        have F3' := F2'.trans (hsn.2.mono F2'.size (S' := fun k => k = g ∨ k = ga) (fun _ _ h => .inl h))
        refine ⟨A1, c1, rfl, by rw [HA.out]; exact hsn.1, F3', ?_, ?_⟩
        · rw [HA.out]
          exact (H3.out.1.fr hsn.2 (Nat.le_refl _) (fun k q1 _ he => by omega)).wider H2.out.2.1.size hsn.2.size
        · exact (hsn.2.cell (p := ⟨4, 0, none⟩) (by have := World.block_lt_of_cell? w2 _ H2.out.2.2.1; have := H3.out.2.1.size; simp only at *; omega) (fun e => HK.out.2.2.2.2.2.1.1 e)).trans ((H3.out.2.1.cell (p := ⟨4, 0, none⟩) (World.block_lt_of_cell? w2 _ H2.out.2.2.1)).trans H2.out.2.2.1)
      case rest =>
        obtain ⟨A1, c1, rfl, R2', F2, o1, h42⟩ := hcut
        have hled : (Value.slice A1 nl c1 = lv ∧ (r.newer ar an l).led = r.led) ∨ OwnLed wc w.heap.size wc.heap.size (.slice A1 nl c1) (r.newer ar an l).led := .inr o1
        clear o1
        have k119 := most_any wc B g ga n (upd f j true) (r.newer ar an l) pv (.slice A1 nl c1) R2'
        by_cases hm : half n ≤ (cnt n (upd f j true) : Nat)
        · rw [decide_eq_true hm] at k119
          have k120 : ∀ w3, Below wc.heap.size wc w3 → Calls Tryd.prog 120 #[.pointer (some ⟨g, 0, none⟩)] w3 (TellPost B g ga n (r.newer ar an l) pv (.slice A1 nl c1) w3) := fun w3 b =>
            tell_any w3 B g ga n _ _ pv _ (R2'.below b (Nat.le_refl _)) hn a4 ((b.cell (p := ⟨4, 0, none⟩) (World.block_lt_of_cell? wc _ h42)).trans h42)
          have hbw : B ≤ wc.heap.size := R2'.hB
          have hret : ∀ w3 w4 e, Below wc.heap.size wc w3 → TellPost B g ga n (r.newer ar an l) pv (.slice A1 nl c1) w3 e w4 → PromPost B g ga n f r pv lv j br bn ar an l w (.returned (.bool true)) w4 := fun w3 w4 e b ht =>
            PromPost.tells H1.out.2.2.2.2.2.1 H1.out.2.2.2.2.2.2.1 hj H1.out.2.2.2.2.2.2.2.1 HG.out.1 HG.out.2 F2 hled b hm ht
          have HT := Lib.hid (And.intro k119 (And.intro k120 hret))
          clear k119 k120 hret hm R2' F2 hled h42
          go_wp2_with (first
            | (go_at_call 119; refine HT.out.1.mono ?_; rintro e w3 ⟨rfl, b3⟩; have H3 := Lib.hid b3; clear b3)
            | (go_at_call 120; refine (HT.out.2.1 w3 H3.out).mono ?_; rintro e w4 ht; obtain rfl := ht.1; have H4 := Lib.hid ht; clear ht)
            | fail)
          go_ret
          exact HT.out.2.2 w3 w4 _ H3.out H4.out
        · rw [decide_eq_false hm] at k119
          have hret : ∀ w3, Below wc.heap.size wc w3 → PromPost B g ga n f r pv lv j br bn ar an l w (.returned (.bool true)) w3 := fun w3 b =>
            PromPost.last H1.out.2.2.2.2.2.1 H1.out.2.2.2.2.2.2.1 hj H1.out.2.2.2.2.2.2.2.1 R2' F2 hled b hm
          have HT := Lib.hid (And.intro k119 hret)
          clear k119 hret hm R2' F2 hled h42
          go_wp2_with (first
            | (go_at_call 119; refine HT.out.1.mono ?_; rintro e w3 ⟨rfl, b3⟩; have H3 := Lib.hid b3; clear b3)
            | fail)
          go_ret
          exact HT.out.2 w3 H3.out
end Go.Proofs.YtnlncfjibbdimaaDoor

namespace Go.Proofs.YtnlncfjibbdimaaDoor
open Go.RowKit
set_option linter.unusedSimpArgs false
set_option linter.unusedVariables false

set_option maxRecDepth 100000 in
set_option maxHeartbeats 1600000 in
theorem new13_num (w : World) (n : Int) (c : Cmd) (pv : Value) (reads : Bool) (a0 : Addr) (h0 : w.cell? ⟨0, 0, none⟩ = some (errv a0)) (hn : n < 1 ∨ 16 < n) :
    Calls Tryd.prog 53 #[.int .i64 n, .agg (c.cells pv).toArray, .bool reads] w fun e w' => e = .returned (.tuple #[.pointer none, errv a0]) ∧ Below w.heap.size w w' := by
  have bA : Below w.heap.size w (w.alloc (.cells (c.cells pv).toArray 81)) := (Below.refl _ _).alloc (Nat.le_refl _) _
  have c0 := (bA.cell (World.block_lt_of_cell? w _ h0)).trans h0
  have HB := Lib.hid bA
  clear bA h0
  by_cases h1 : n < 1
  · clear hn
    go_enter Tryd.func53, Tryd.ntmps53
    go_upto_region 2 with (fail)
    go_region_held3 (fun w' => w'.cell? ⟨0, 0, none⟩ = some (errv a0)) (go_keep) (fail)
    go_wp2_with (fail)
    go_ret2
    exact ⟨rfl, HB.out.drew⟩
  · have h2 : n > 16 := by omega
    clear hn
    go_enter Tryd.func53, Tryd.ntmps53
    go_upto_region 2 with (fail)
    go_region_held3 (fun w' => w'.cell? ⟨0, 0, none⟩ = some (errv a0)) (go_keep) (fail)
    go_wp2_with (fail)
    go_ret2
    exact ⟨rfl, HB.out.drew⟩

set_option maxRecDepth 100000 in
set_option maxHeartbeats 1600000 in
theorem new13_state (w : World) (n : Nat) (c : Cmd) (hz : c.Sized) (pv : Value) (lo hi : Nat) (hp : IntsAt w lo hi pv c.parts) (hhi : hi ≤ w.heap.size) (a1 : Addr) (h1 : w.cell? ⟨1, 0, none⟩ = some (errv a1)) (hn : 1 ≤ n ∧ n ≤ 16) (hc : chkB c = false) :
    Calls Tryd.prog 53 #[.int .i64 n, .agg (c.cells pv).toArray, .bool false] w fun e w' => e = .returned (.tuple #[.pointer none, errv a1]) ∧ Below w.heap.size w w' := by
  have bA : Below w.heap.size w (w.alloc (.cells (c.cells pv).toArray 81)) := (Below.refl _ _).alloc (Nat.le_refl _) _
  have hX := Blk.new w 81 (c.cells pv).toArray
  have hr := hX.range
  have h1l := World.block_lt_of_cell? w _ h1
  have k43 := check_any c hz (w.alloc (.cells (c.cells pv).toArray 81)) lo hi pv (hp.fr (Fr.of_below bA (fun _ => False)) hhi (fun _ _ _ h => h)) (Nat.le_trans hhi bA.size) a1 ((bA.cell h1l).trans h1)
  rw [hc] at k43
  have hG : ∀ W, Below w.heap.size w W → W.cell? ⟨1, 0, none⟩ = some (errv a1) := fun W b => (b.cell h1l).trans h1
  have HB := Lib.hid (And.intro bA (And.intro k43 hG))
  have n1 : ¬ (n : Int) < 1 := by omega
  have n2 : ¬ (n : Int) > 16 := by omega
  have hld := run_loadVar_mid (P := Tryd.prog) _ w.heap.size 0 81 (c.cells pv) _ hr Tryd.underlying81 rfl cmd_info
  simp [go_sem] at hld
  clear bA h1 h1l k43 hG hc hn hX hp hr
  go_enter Tryd.func53, Tryd.ntmps53
  go_upto_region 4 with (first
    | (go_at_call 43; refine HB.out.2.1.mono ?_; rintro e w2 ⟨rfl, b2⟩; have H2 := Lib.hid (HB.out.1.trans (b2.mono HB.out.1.size)); have cE := HB.out.2.2 w2 H2.out; clear b2)
    | fail)
  go_region_held3 (fun w' => w'.cell? ⟨1, 0, none⟩ = some (errv a1)) (go_keep) (fail)
  go_wp2_with (fail)
  go_ret2
  exact ⟨rfl, H2.out.drew⟩

/-- What New makes. -/
def New13Post (n : Nat) (c : Cmd) (reads : Bool) (w : World) (e : Ending) (w' : World) : Prop :=
  ∃ ga pv', e = .returned (.tuple #[.pointer (some ⟨ga + 1, 0, none⟩), .nilIface]) ∧ w.heap.size ≤ ga ∧ ga + 2 ≤ w'.heap.size ∧
    RndAt w' w'.heap.size (ga + 1) ga n (fun _ => false) ⟨c, reads, 0, 0, 0, 0, 0, [], 0⟩ pv' (.slice none 0 0) ∧ OwnInts w' w.heap.size ga pv' c.parts ∧ Below w.heap.size w w'

set_option maxRecDepth 100000 in
set_option maxHeartbeats 1600000 in
theorem new13_reads (w : World) (n : Nat) (c : Cmd) (pv : Value) (lo hi : Nat) (hp : IntsAt w lo hi pv c.parts) (hhi : hi ≤ w.heap.size) (hn : 1 ≤ n ∧ n ≤ 16) :
    Calls Tryd.prog 53 #[.int .i64 n, .agg (c.cells pv).toArray, .bool true] w (New13Post n c true w) := by
  have bA : Below w.heap.size w (w.alloc (.cells (c.cells pv).toArray 81)) := (Below.refl _ _).alloc (Nat.le_refl _) _
  have hX := Blk.new w 81 (c.cells pv).toArray
  have hr := hX.range
  obtain ⟨pA, pc, hpv⟩ : ∃ pA pc, pv = .slice pA c.parts.length pc := by
    obtain ⟨A1, c1, q1, _⟩ := hp
    exact ⟨A1, c1, q1⟩
  subst hpv
  have hmk := make_bools n (by omega)
  have n1 : ¬ (n : Int) < 1 := by omega
  have n2 : ¬ (n : Int) > 16 := by omega
  have HB := Lib.hid (And.intro bA (And.intro hX (And.intro hp hn)))
  clear bA hn hX hp hr
  go_enter Tryd.func53, Tryd.ntmps53
  go_upto_region 5 with (fail)
  refine wp_letter (fun W => Below w.heap.size w W ∧ Blk W w.heap.size 81 (c.cells (.slice pA c.parts.length pc)).toArray) ⟨HB.out.1, HB.out.2.1⟩ ?_
  skip
  rintro W ⟨hb, hX⟩
  obtain ⟨x, hx⟩ : ∃ x, x = w.heap.size := ⟨_, rfl⟩
  rw [← hx] at hX ⊢
  have k115 := clone_ints W lo hi _ c.parts (HB.out.2.2.1.fr (Fr.of_below hb (fun _ => False)) hhi (fun _ _ _ h => h)) (Nat.le_trans hhi hb.size)
  have c15 : W.cell? ⟨x, 15, none⟩ = some (.slice pA c.parts.length pc) := hX.cell 15
  have HW := Lib.hid (And.intro hb (And.intro hX (And.intro k115 hx)))
  clear hb hX k115 hx
  go_upto_region 6 with (first
    | (go_at_call 115
       refine HW.out.2.2.1.mono ?_
       rintro e w1 ⟨v1, rfl, o1, b1⟩
       obtain ⟨A1, c1, hv1, _⟩ := o1.1.form
       subst hv1
       have hX1 := HW.out.2.1.below b1 HW.out.2.1.lt
       have d15 : w1.cell? ⟨x, 15, none⟩ = some (.slice pA c.parts.length pc) := hX1.cell 15
       have f15 := hX1.frozen 15
       have H1 := Lib.hid (And.intro o1 (And.intro b1 hX1))
       clear o1 b1 hX1)
    | fail)
  clear c15 d15 f15
  have hsz := H1.out.2.1.size
  have hxl := HW.out.2.1.lt
  refine wp_letter (fun W2 => Below w.heap.size w W2 ∧ Blk W2 x 81 (c.cells (.slice A1 c.parts.length c1)).toArray ∧ OwnInts W2 w.heap.size W2.heap.size (.slice A1 c.parts.length c1) c.parts)
    ⟨(HW.out.1.trans (H1.out.2.1.mono HW.out.1.size)).setCell (p := ⟨x, 15, none⟩) (by rw [← HW.out.2.2.2]; exact Nat.le_refl _) _, H1.out.2.2.set_ 15 _,
     ((H1.out.1.fr ((Fr.refl w1.heap.size (fun k => k = x) w1).setCell (p := ⟨x, 15, none⟩) (.inl rfl) (.slice A1 c.parts.length c1)) (Nat.le_refl _) (fun k h1 _ he => by omega)).wider HW.out.1.size (by simp))⟩ ?_
  rintro W2 ⟨hb2, hX2, ho2⟩
  have hr2 := fun W' (b : Below W2.heap.size W2 W') => (hX2.below b hX2.lt).range
  have H2 := Lib.hid (And.intro hb2 (And.intro hX2 (And.intro ho2 hr2)))
  clear hb2 hX2 ho2 hr2 hsz hxl H1
  have hBr : Below W2.heap.size W2 W2.drew := (Below.refl W2.heap.size W2).drew
  go_cut [6, 7] (fun v6 v7 wx => v6 = .pointer (some ⟨W2.heap.size + 1, 0, none⟩) ∧ v7 = .nilIface ∧ Below W2.heap.size W2 wx ∧ Blk wx W2.heap.size 4 (bls (fun _ => false) n) ∧ Blk wx (W2.heap.size + 1) 199 ((⟨c, true, 0, 0, 0, 0, 0, [], 0⟩ : Rnd).cells (.slice (some ⟨W2.heap.size, 0, none⟩) n n) (.slice A1 c.parts.length c1) (.slice none 0 0)).toArray)
  case first =>
    refine wp_region_held_drew (S := fun w' => Below W2.heap.size W2 w') (by kernel_rfl) hBr (fun _ => ?_)
    refine wpAnyH_take (i := 0) (v := .int .i64 n) rfl (by kernel_rfl) (by kernel_rfl) (by kernel_rfl) (fun _ _ _ h => h) (Or.inl ⟨by kernel_rfl, fun w' hSw => ?_⟩) hBr ?_
    · go_simp
    try simp only [List.getElem_toArray, List.getElem_cons_succ, List.getElem_cons_zero, Act.put, List.setIfInBounds_toArray, List.set_cons_zero, List.set_cons_succ]
    refine wpAnyH_take (i := 2) (v := .agg #[.int .i64 c.kind, .int .i64 c.idn, .int .i64 c.idb, .int .i64 c.ids, .string c.bucket, .string c.key, .int .i64 c.upn, .int .i64 c.upb, .int .i64 c.ups, .int .i64 c.pbn, .int .i64 c.pbb, .int .i64 c.pbs, .int .i64 c.psize, .string c.etag, .int .i64 c.part, .slice A1 c.parts.length c1, .int .i64 c.time, .int .i64 c.days]) rfl (by kernel_rfl) (by kernel_rfl) (by kernel_rfl) (fun _ _ _ h => h) ?_ hBr ?_
    · refine yieldsIf_load_mid ?_ 81 (.tmp 4) ?_ x 0 ?_ (c.cells (.slice A1 c.parts.length c1)) _ H2.out.2.2.2 Tryd.underlying81 ?_ cmd_info
      · kernel_rfl
      · rfl
      · kernel_rfl
      · rfl
    try simp only [List.getElem_toArray, List.getElem_cons_succ, List.getElem_cons_zero, Act.put, List.setIfInBounds_toArray, List.set_cons_zero, List.set_cons_succ]
    refine wpAnyH_take (i := 3) (v := .bool true) rfl (by kernel_rfl) (by kernel_rfl) (by kernel_rfl) (fun _ _ _ h => h) (Or.inl ⟨by kernel_rfl, fun w' hSw => ?_⟩) hBr ?_
    · go_simp
    try simp only [List.getElem_toArray, List.getElem_cons_succ, List.getElem_cons_zero, Act.put, List.setIfInBounds_toArray, List.set_cons_zero, List.set_cons_succ]
    refine wpAnyH_ready (rs := [1]) (by kernel_rfl) (by simp) ?_
    refine AllReadyH.cons rfl (fun K hK => ?_) ?_
    · have hb1 : Below W2.heap.size W2 (World.alloc W2.drew (.cells (bls (fun _ => false) n) 4)) := hBr.alloc hBr.size _
      have hz1 : Blk (World.alloc W2.drew (.cells (bls (fun _ => false) n) 4)) W2.heap.size 4 (bls (fun _ => false) n) := Blk.new W2.drew 4 _
      have H3 := Lib.hid hz1
      clear hz1
      go_simp
      refine Shut.out hK _ _ hb1 (fun _ => ?_)
      clear hK K
      refine wpAnyH_take (i := 4) (v := (.agg #[.slice (some ⟨W2.heap.size, 0, none⟩) n n, .int .i64 c.kind, .int .i64 c.idn, .int .i64 c.idb, .int .i64 c.ids, .string c.bucket, .string c.key, .int .i64 c.upn, .int .i64 c.upb, .int .i64 c.ups, .int .i64 c.pbn, .int .i64 c.pbb, .int .i64 c.pbs, .int .i64 c.psize, .string c.etag, .int .i64 c.part, .slice A1 c.parts.length c1, .int .i64 c.time, .int .i64 c.days, .bool true, .int .i64 0, .int .i64 0, .int .i64 0, .int .i64 0, .int .i64 0, .slice none 0 0, .int .i64 0])) rfl (by kernel_rfl) (by kernel_rfl) (by kernel_rfl) (fun _ _ _ h => h) (Or.inl ⟨by kernel_rfl, fun w' hSw => ?_⟩) hb1 ?_
      · go_simp
      try simp only [List.getElem_toArray, List.getElem_cons_succ, List.getElem_cons_zero, Act.put, List.setIfInBounds_toArray, List.set_cons_zero, List.set_cons_succ]
      have hb2 : Below W2.heap.size W2 (World.alloc (World.alloc W2.drew (.cells (bls (fun _ => false) n) 4)) (.cells #[.slice (some ⟨W2.heap.size, 0, none⟩) n n, .int .i64 c.kind, .int .i64 c.idn, .int .i64 c.idb, .int .i64 c.ids, .string c.bucket, .string c.key, .int .i64 c.upn, .int .i64 c.upb, .int .i64 c.ups, .int .i64 c.pbn, .int .i64 c.pbb, .int .i64 c.pbs, .int .i64 c.psize, .string c.etag, .int .i64 c.part, .slice A1 c.parts.length c1, .int .i64 c.time, .int .i64 c.days, .bool true, .int .i64 0, .int .i64 0, .int .i64 0, .int .i64 0, .int .i64 0, .slice none 0 0, .int .i64 0] 199)) := hb1.alloc hb1.size _
      have hz2 : Blk (World.alloc (World.alloc W2.drew (.cells (bls (fun _ => false) n) 4)) (.cells #[.slice (some ⟨W2.heap.size, 0, none⟩) n n, .int .i64 c.kind, .int .i64 c.idn, .int .i64 c.idb, .int .i64 c.ids, .string c.bucket, .string c.key, .int .i64 c.upn, .int .i64 c.upb, .int .i64 c.ups, .int .i64 c.pbn, .int .i64 c.pbb, .int .i64 c.pbs, .int .i64 c.psize, .string c.etag, .int .i64 c.part, .slice A1 c.parts.length c1, .int .i64 c.time, .int .i64 c.days, .bool true, .int .i64 0, .int .i64 0, .int .i64 0, .int .i64 0, .int .i64 0, .slice none 0 0, .int .i64 0] 199)) (W2.heap.size + 1) 199 #[.slice (some ⟨W2.heap.size, 0, none⟩) n n, .int .i64 c.kind, .int .i64 c.idn, .int .i64 c.idb, .int .i64 c.ids, .string c.bucket, .string c.key, .int .i64 c.upn, .int .i64 c.upb, .int .i64 c.ups, .int .i64 c.pbn, .int .i64 c.pbb, .int .i64 c.pbs, .int .i64 c.psize, .string c.etag, .int .i64 c.part, .slice A1 c.parts.length c1, .int .i64 c.time, .int .i64 c.days, .bool true, .int .i64 0, .int .i64 0, .int .i64 0, .int .i64 0, .int .i64 0, .slice none 0 0, .int .i64 0] := Blk.new1 W2.drew _ 199 _
      have H4 := Lib.hid (And.intro (H3.out.alloc (.cells #[.slice (some ⟨W2.heap.size, 0, none⟩) n n, .int .i64 c.kind, .int .i64 c.idn, .int .i64 c.idb, .int .i64 c.ids, .string c.bucket, .string c.key, .int .i64 c.upn, .int .i64 c.upb, .int .i64 c.ups, .int .i64 c.pbn, .int .i64 c.pbb, .int .i64 c.pbs, .int .i64 c.psize, .string c.etag, .int .i64 c.part, .slice A1 c.parts.length c1, .int .i64 c.time, .int .i64 c.days, .bool true, .int .i64 0, .int .i64 0, .int .i64 0, .int .i64 0, .int .i64 0, .slice none 0 0, .int .i64 0] 199)) hz2)
      clear hz2
      refine wpAnyH_ready (rs := [5]) (by kernel_rfl) (by simp) ?_
      refine AllReadyH.cons rfl (fun K hK => ?_) ?_
      · go_simp
        refine Shut.out hK _ _ hb2 (fun _ => ?_)
        clear hK K
        refine wpAnyH_take (i := 6) (v := .pointer (some ⟨W2.heap.size + 1, 0, none⟩)) rfl (by kernel_rfl) (by kernel_rfl) (by kernel_rfl) (fun _ _ _ h => h) (Or.inl ⟨by kernel_rfl, fun w' hSw => ?_⟩) hb2 ?_
        · go_simp
        try simp only [List.getElem_toArray, List.getElem_cons_succ, List.getElem_cons_zero, Act.put, List.setIfInBounds_toArray, List.set_cons_zero, List.set_cons_succ]
        refine wpAnyH_take (i := 7) (v := .nilIface) rfl (by kernel_rfl) (by kernel_rfl) (by kernel_rfl) (fun _ _ _ h => h) (Or.inl ⟨by kernel_rfl, fun w' hSw => ?_⟩) hb2 ?_
        · go_simp
        try simp only [List.getElem_toArray, List.getElem_cons_succ, List.getElem_cons_zero, Act.put, List.setIfInBounds_toArray, List.set_cons_zero, List.set_cons_succ]
        refine wpAnyH_done (by kernel_rfl) ?_ _
        go_wp2_with (fail)
        go_meet
        exact ⟨rfl, rfl, hb2, H4.out.1, H4.out.2⟩
      exact AllReadyH.nil
    exact AllReadyH.nil
  case rest =>
    obtain ⟨rfl, rfl, b3, hG, hA⟩ := hcut
    have hret : New13Post n c true w (.returned (.tuple #[.pointer (some ⟨W2.heap.size + 1, 0, none⟩), .nilIface])) wc := by
      have hs3 := b3.size
      have hl := hA.lt
      have hp3 := H2.out.2.2.1.fr (Fr.of_below b3 (fun _ => False)) (Nat.le_refl _) (fun _ _ _ h => h)
      exact ⟨W2.heap.size, _, rfl, H2.out.1.size, by omega, ⟨by omega, by omega, by omega, Nat.le_refl _, hA, hG, ⟨W2.heap.size, by omega, Nat.le_refl _, hp3.at_.wider (Nat.zero_le _) (Nat.le_refl _)⟩, (OwnLed.nil_ _ _ _).at_, HB.out.2.2.2.2⟩, hp3, H2.out.1.trans (b3.mono H2.out.1.size)⟩
    clear b3 hG hA
    go_wp2_with (fail)
    go_ret2
    exact hret

set_option maxRecDepth 100000 in
set_option maxHeartbeats 1600000 in
theorem new13_cmd (w : World) (n : Nat) (c : Cmd) (hz : c.Sized) (pv : Value) (lo hi : Nat) (hp : IntsAt w lo hi pv c.parts) (hhi : hi ≤ w.heap.size) (hn : 1 ≤ n ∧ n ≤ 16) (a1 : Addr) (h1 : w.cell? ⟨1, 0, none⟩ = some (errv a1)) (hc : chkB c = true) :
    Calls Tryd.prog 53 #[.int .i64 n, .agg (c.cells pv).toArray, .bool false] w (New13Post n c false w) := by
  have bA : Below w.heap.size w (w.alloc (.cells (c.cells pv).toArray 81)) := (Below.refl _ _).alloc (Nat.le_refl _) _
  have hX := Blk.new w 81 (c.cells pv).toArray
  have hr := hX.range
  have h1l := World.block_lt_of_cell? w _ h1
  have k43 := check_any c hz (w.alloc (.cells (c.cells pv).toArray 81)) lo hi pv (hp.fr (Fr.of_below bA (fun _ => False)) hhi (fun _ _ _ h => h)) (Nat.le_trans hhi bA.size) a1 ((bA.cell h1l).trans h1)
  rw [hc] at k43
  have HC := Lib.hid k43
  have hld := run_loadVar_mid (P := Tryd.prog) _ w.heap.size 0 81 (c.cells pv) _ hr Tryd.underlying81 rfl cmd_info
  simp [go_sem] at hld
  clear k43 h1 h1l hc
  obtain ⟨pA, pc, hpv⟩ : ∃ pA pc, pv = .slice pA c.parts.length pc := by
    obtain ⟨A1, c1, q1, _⟩ := hp
    exact ⟨A1, c1, q1⟩
  subst hpv
  have hmk := make_bools n (by omega)
  have n1 : ¬ (n : Int) < 1 := by omega
  have n2 : ¬ (n : Int) > 16 := by omega
  have HB := Lib.hid (And.intro bA (And.intro hX (And.intro hp hn)))
  clear bA hn hX hp hr
  go_enter Tryd.func53, Tryd.ntmps53
  go_upto_region 5 with (first
    | (go_at_call 43; refine HC.out.mono ?_; rintro e w2 ⟨rfl, b2⟩; have H2 := Lib.hid b2; clear b2)
    | fail)
  refine wp_letter (fun W => Below w.heap.size w W ∧ Blk W w.heap.size 81 (c.cells (.slice pA c.parts.length pc)).toArray) ⟨HB.out.1.trans (H2.out.mono HB.out.1.size), HB.out.2.1.below H2.out HB.out.2.1.lt⟩ ?_
  clear hld H2
  rintro W ⟨hb, hX⟩
  obtain ⟨x, hx⟩ : ∃ x, x = w.heap.size := ⟨_, rfl⟩
  rw [← hx] at hX ⊢
  have k115 := clone_ints W lo hi _ c.parts (HB.out.2.2.1.fr (Fr.of_below hb (fun _ => False)) hhi (fun _ _ _ h => h)) (Nat.le_trans hhi hb.size)
  have c15 : W.cell? ⟨x, 15, none⟩ = some (.slice pA c.parts.length pc) := hX.cell 15
  have HW := Lib.hid (And.intro hb (And.intro hX (And.intro k115 hx)))
  clear hb hX k115 hx
  go_upto_region 6 with (first
    | (go_at_call 115
       refine HW.out.2.2.1.mono ?_
       rintro e w1 ⟨v1, rfl, o1, b1⟩
       obtain ⟨A1, c1, hv1, _⟩ := o1.1.form
       subst hv1
       have hX1 := HW.out.2.1.below b1 HW.out.2.1.lt
       have d15 : w1.cell? ⟨x, 15, none⟩ = some (.slice pA c.parts.length pc) := hX1.cell 15
       have f15 := hX1.frozen 15
       have H1 := Lib.hid (And.intro o1 (And.intro b1 hX1))
       clear o1 b1 hX1)
    | fail)
  clear c15 d15 f15
  have hsz := H1.out.2.1.size
  have hxl := HW.out.2.1.lt
  refine wp_letter (fun W2 => Below w.heap.size w W2 ∧ Blk W2 x 81 (c.cells (.slice A1 c.parts.length c1)).toArray ∧ OwnInts W2 w.heap.size W2.heap.size (.slice A1 c.parts.length c1) c.parts)
    ⟨(HW.out.1.trans (H1.out.2.1.mono HW.out.1.size)).setCell (p := ⟨x, 15, none⟩) (by rw [← HW.out.2.2.2]; exact Nat.le_refl _) _, H1.out.2.2.set_ 15 _,
     ((H1.out.1.fr ((Fr.refl w1.heap.size (fun k => k = x) w1).setCell (p := ⟨x, 15, none⟩) (.inl rfl) (.slice A1 c.parts.length c1)) (Nat.le_refl _) (fun k h1 _ he => by omega)).wider HW.out.1.size (by simp))⟩ ?_
  rintro W2 ⟨hb2, hX2, ho2⟩
  have hr2 := fun W' (b : Below W2.heap.size W2 W') => (hX2.below b hX2.lt).range
  have H2 := Lib.hid (And.intro hb2 (And.intro hX2 (And.intro ho2 hr2)))
  clear hb2 hX2 ho2 hr2 hsz hxl H1
  have hBr : Below W2.heap.size W2 W2.drew := (Below.refl W2.heap.size W2).drew
  go_cut [6, 7] (fun v6 v7 wx => v6 = .pointer (some ⟨W2.heap.size + 1, 0, none⟩) ∧ v7 = .nilIface ∧ Below W2.heap.size W2 wx ∧ Blk wx W2.heap.size 4 (bls (fun _ => false) n) ∧ Blk wx (W2.heap.size + 1) 199 ((⟨c, false, 0, 0, 0, 0, 0, [], 0⟩ : Rnd).cells (.slice (some ⟨W2.heap.size, 0, none⟩) n n) (.slice A1 c.parts.length c1) (.slice none 0 0)).toArray)
  case first =>
    refine wp_region_held_drew (S := fun w' => Below W2.heap.size W2 w') (by kernel_rfl) hBr (fun _ => ?_)
    refine wpAnyH_take (i := 0) (v := .int .i64 n) rfl (by kernel_rfl) (by kernel_rfl) (by kernel_rfl) (fun _ _ _ h => h) (Or.inl ⟨by kernel_rfl, fun w' hSw => ?_⟩) hBr ?_
    · go_simp
    try simp only [List.getElem_toArray, List.getElem_cons_succ, List.getElem_cons_zero, Act.put, List.setIfInBounds_toArray, List.set_cons_zero, List.set_cons_succ]
    refine wpAnyH_take (i := 2) (v := .agg #[.int .i64 c.kind, .int .i64 c.idn, .int .i64 c.idb, .int .i64 c.ids, .string c.bucket, .string c.key, .int .i64 c.upn, .int .i64 c.upb, .int .i64 c.ups, .int .i64 c.pbn, .int .i64 c.pbb, .int .i64 c.pbs, .int .i64 c.psize, .string c.etag, .int .i64 c.part, .slice A1 c.parts.length c1, .int .i64 c.time, .int .i64 c.days]) rfl (by kernel_rfl) (by kernel_rfl) (by kernel_rfl) (fun _ _ _ h => h) ?_ hBr ?_
    · refine yieldsIf_load_mid ?_ 81 (.tmp 4) ?_ x 0 ?_ (c.cells (.slice A1 c.parts.length c1)) _ H2.out.2.2.2 Tryd.underlying81 ?_ cmd_info
      · kernel_rfl
      · rfl
      · kernel_rfl
      · rfl
    try simp only [List.getElem_toArray, List.getElem_cons_succ, List.getElem_cons_zero, Act.put, List.setIfInBounds_toArray, List.set_cons_zero, List.set_cons_succ]
    refine wpAnyH_take (i := 3) (v := .bool false) rfl (by kernel_rfl) (by kernel_rfl) (by kernel_rfl) (fun _ _ _ h => h) (Or.inl ⟨by kernel_rfl, fun w' hSw => ?_⟩) hBr ?_
    · go_simp
    try simp only [List.getElem_toArray, List.getElem_cons_succ, List.getElem_cons_zero, Act.put, List.setIfInBounds_toArray, List.set_cons_zero, List.set_cons_succ]
    refine wpAnyH_ready (rs := [1]) (by kernel_rfl) (by simp) ?_
    refine AllReadyH.cons rfl (fun K hK => ?_) ?_
    · have hb1 : Below W2.heap.size W2 (World.alloc W2.drew (.cells (bls (fun _ => false) n) 4)) := hBr.alloc hBr.size _
      have hz1 : Blk (World.alloc W2.drew (.cells (bls (fun _ => false) n) 4)) W2.heap.size 4 (bls (fun _ => false) n) := Blk.new W2.drew 4 _
      have H3 := Lib.hid hz1
      clear hz1
      go_simp
      refine Shut.out hK _ _ hb1 (fun _ => ?_)
      clear hK K
      refine wpAnyH_take (i := 4) (v := (.agg #[.slice (some ⟨W2.heap.size, 0, none⟩) n n, .int .i64 c.kind, .int .i64 c.idn, .int .i64 c.idb, .int .i64 c.ids, .string c.bucket, .string c.key, .int .i64 c.upn, .int .i64 c.upb, .int .i64 c.ups, .int .i64 c.pbn, .int .i64 c.pbb, .int .i64 c.pbs, .int .i64 c.psize, .string c.etag, .int .i64 c.part, .slice A1 c.parts.length c1, .int .i64 c.time, .int .i64 c.days, .bool false, .int .i64 0, .int .i64 0, .int .i64 0, .int .i64 0, .int .i64 0, .slice none 0 0, .int .i64 0])) rfl (by kernel_rfl) (by kernel_rfl) (by kernel_rfl) (fun _ _ _ h => h) (Or.inl ⟨by kernel_rfl, fun w' hSw => ?_⟩) hb1 ?_
      · go_simp
      try simp only [List.getElem_toArray, List.getElem_cons_succ, List.getElem_cons_zero, Act.put, List.setIfInBounds_toArray, List.set_cons_zero, List.set_cons_succ]
      have hb2 : Below W2.heap.size W2 (World.alloc (World.alloc W2.drew (.cells (bls (fun _ => false) n) 4)) (.cells #[.slice (some ⟨W2.heap.size, 0, none⟩) n n, .int .i64 c.kind, .int .i64 c.idn, .int .i64 c.idb, .int .i64 c.ids, .string c.bucket, .string c.key, .int .i64 c.upn, .int .i64 c.upb, .int .i64 c.ups, .int .i64 c.pbn, .int .i64 c.pbb, .int .i64 c.pbs, .int .i64 c.psize, .string c.etag, .int .i64 c.part, .slice A1 c.parts.length c1, .int .i64 c.time, .int .i64 c.days, .bool false, .int .i64 0, .int .i64 0, .int .i64 0, .int .i64 0, .int .i64 0, .slice none 0 0, .int .i64 0] 199)) := hb1.alloc hb1.size _
      have hz2 : Blk (World.alloc (World.alloc W2.drew (.cells (bls (fun _ => false) n) 4)) (.cells #[.slice (some ⟨W2.heap.size, 0, none⟩) n n, .int .i64 c.kind, .int .i64 c.idn, .int .i64 c.idb, .int .i64 c.ids, .string c.bucket, .string c.key, .int .i64 c.upn, .int .i64 c.upb, .int .i64 c.ups, .int .i64 c.pbn, .int .i64 c.pbb, .int .i64 c.pbs, .int .i64 c.psize, .string c.etag, .int .i64 c.part, .slice A1 c.parts.length c1, .int .i64 c.time, .int .i64 c.days, .bool false, .int .i64 0, .int .i64 0, .int .i64 0, .int .i64 0, .int .i64 0, .slice none 0 0, .int .i64 0] 199)) (W2.heap.size + 1) 199 #[.slice (some ⟨W2.heap.size, 0, none⟩) n n, .int .i64 c.kind, .int .i64 c.idn, .int .i64 c.idb, .int .i64 c.ids, .string c.bucket, .string c.key, .int .i64 c.upn, .int .i64 c.upb, .int .i64 c.ups, .int .i64 c.pbn, .int .i64 c.pbb, .int .i64 c.pbs, .int .i64 c.psize, .string c.etag, .int .i64 c.part, .slice A1 c.parts.length c1, .int .i64 c.time, .int .i64 c.days, .bool false, .int .i64 0, .int .i64 0, .int .i64 0, .int .i64 0, .int .i64 0, .slice none 0 0, .int .i64 0] := Blk.new1 W2.drew _ 199 _
      have H4 := Lib.hid (And.intro (H3.out.alloc (.cells #[.slice (some ⟨W2.heap.size, 0, none⟩) n n, .int .i64 c.kind, .int .i64 c.idn, .int .i64 c.idb, .int .i64 c.ids, .string c.bucket, .string c.key, .int .i64 c.upn, .int .i64 c.upb, .int .i64 c.ups, .int .i64 c.pbn, .int .i64 c.pbb, .int .i64 c.pbs, .int .i64 c.psize, .string c.etag, .int .i64 c.part, .slice A1 c.parts.length c1, .int .i64 c.time, .int .i64 c.days, .bool false, .int .i64 0, .int .i64 0, .int .i64 0, .int .i64 0, .int .i64 0, .slice none 0 0, .int .i64 0] 199)) hz2)
      clear hz2
      refine wpAnyH_ready (rs := [5]) (by kernel_rfl) (by simp) ?_
      refine AllReadyH.cons rfl (fun K hK => ?_) ?_
      · go_simp
        refine Shut.out hK _ _ hb2 (fun _ => ?_)
        clear hK K
        refine wpAnyH_take (i := 6) (v := .pointer (some ⟨W2.heap.size + 1, 0, none⟩)) rfl (by kernel_rfl) (by kernel_rfl) (by kernel_rfl) (fun _ _ _ h => h) (Or.inl ⟨by kernel_rfl, fun w' hSw => ?_⟩) hb2 ?_
        · go_simp
        try simp only [List.getElem_toArray, List.getElem_cons_succ, List.getElem_cons_zero, Act.put, List.setIfInBounds_toArray, List.set_cons_zero, List.set_cons_succ]
        refine wpAnyH_take (i := 7) (v := .nilIface) rfl (by kernel_rfl) (by kernel_rfl) (by kernel_rfl) (fun _ _ _ h => h) (Or.inl ⟨by kernel_rfl, fun w' hSw => ?_⟩) hb2 ?_
        · go_simp
        try simp only [List.getElem_toArray, List.getElem_cons_succ, List.getElem_cons_zero, Act.put, List.setIfInBounds_toArray, List.set_cons_zero, List.set_cons_succ]
        refine wpAnyH_done (by kernel_rfl) ?_ _
        go_wp2_with (fail)
        go_meet
        exact ⟨rfl, rfl, hb2, H4.out.1, H4.out.2⟩
      exact AllReadyH.nil
    exact AllReadyH.nil
  case rest =>
    obtain ⟨rfl, rfl, b3, hG, hA⟩ := hcut
    have hret : New13Post n c false w (.returned (.tuple #[.pointer (some ⟨W2.heap.size + 1, 0, none⟩), .nilIface])) wc := by
      have hs3 := b3.size
      have hl := hA.lt
      have hp3 := H2.out.2.2.1.fr (Fr.of_below b3 (fun _ => False)) (Nat.le_refl _) (fun _ _ _ h => h)
      exact ⟨W2.heap.size, _, rfl, H2.out.1.size, by omega, ⟨by omega, by omega, by omega, Nat.le_refl _, hA, hG, ⟨W2.heap.size, by omega, Nat.le_refl _, hp3.at_.wider (Nat.zero_le _) (Nat.le_refl _)⟩, (OwnLed.nil_ _ _ _).at_, HB.out.2.2.2.2⟩, hp3, H2.out.1.trans (b3.mono H2.out.1.size)⟩
    clear b3 hG hA
    go_wp2_with (fail)
    go_ret2
    exact hret
end Go.Proofs.YtnlncfjibbdimaaDoor

namespace Go.Proofs.YtnlncfjibbdimaaDoor
open Go.RowKit
set_option linter.unusedSimpArgs false
set_option linter.unusedVariables false

/-- The errors that a round's calls answer. -/
def E13 (w : World) (A : Nat → Addr) : Prop := ∀ q, q = 0 ∨ q = 1 ∨ q = 3 ∨ q = 4 ∨ q = 10 → w.cell? ⟨q, 0, none⟩ = some (errv (A q))
theorem E13.below {w w' : World} {A : Nat → Addr} (h : E13 w A) (b : Below w.heap.size w w') : E13 w' A := fun q hq => (b.cell (p := ⟨q, 0, none⟩) (World.block_lt_of_cell? w _ (h q hq))).trans (h q hq)

/-- A round that the call made since world w. -/
structure RS (w : World) (B g ga n : Nat) (f : Nat → Bool) (r : Rnd) (pv lv : Value) (W : World) : Prop where
  at_ : RndAt W B g ga n f r pv lv
  bel : Below w.heap.size w W
  lo : w.heap.size ≤ g ∧ w.heap.size ≤ ga
  pos : 0 < n

section
variable {w W W' : World} {B g ga n : Nat} {f : Nat → Bool} {r : Rnd} {pv lv : Value} {A : Nat → Addr}
theorem RS.below (h : RS w B g ga n f r pv lv W) (b : Below W.heap.size W W') : RS w B g ga n f r pv lv W' := ⟨h.at_.below b (Nat.le_refl _), h.bel.trans (b.mono h.bel.size), h.lo, h.pos⟩
theorem RS.step {f' : Nat → Bool} {r' : Rnd} {lv' : Value} (h : RS w B g ga n f r pv lv W) (hR : RndAt W' B g ga n f' r' pv lv') (hF : Fr W.heap.size (fun k => k = g ∨ k = ga) W W') : RS w B g ga n f' r' pv lv' W' :=
  ⟨hR, h.bel.trans ((hF.mono h.bel.size (S' := fun _ => False) (fun k hk hs => by have := h.lo; omega)).below (fun _ _ h => h)), h.lo, h.pos⟩
theorem RS.e (h : RS w B g ga n f r pv lv W) (hE : E13 w A) {q : Nat} (hq : q = 0 ∨ q = 1 ∨ q = 3 ∨ q = 4 ∨ q = 10) : W.cell? ⟨q, 0, none⟩ = some (errv (A q)) := (hE.below h.bel) q hq

theorem RS.begin_ (h : RS w B g ga n f r pv lv W) (hE : E13 w A) {br bn : Int} (hs : r.stage < 3) (hl : lg br bn = true) (ha : ab br bn r.br r.bn = true) :
    Calls Tryd.prog 55 #[.pointer (some ⟨g, 0, none⟩), .agg #[.int .i64 br, .int .i64 bn]] W fun e w' => e = .returned .nilIface ∧
      RS w B g ga n (fun _ => false) { r with br := br, bn := bn, stage := 1, nr := 0, nn := 0, led := [], begun := wrap64 (r.begun + 1) } pv (.slice none 0 0) w' ∧ Fr W.heap.size (fun k => k = g ∨ k = ga) W w' :=
  (begin_good W B g ga n f r pv lv h.at_ br bn (A 3) (h.e hE (by simp)) hs hl ha h.pos).mono fun e w' ⟨h1, h2, h3⟩ => ⟨h1, h.step h2 h3, h3⟩
theorem RS.promise_no (h : RS w B g ga n f r pv lv W) (hE : E13 w A) {from_ br bn ar an : Int} {lo hi : Nat} {lva : Value} {l : List Cmd} (hL : LedAt W lo hi lva l) (hhi : hi ≤ W.heap.size) (hlo : ga < lo ∨ hi ≤ ga) (hf : ¬ fitsR r n f 1 from_ br bn) :
    Calls Tryd.prog 58 #[.pointer (some ⟨g, 0, none⟩), .int .i64 from_, .agg #[.int .i64 br, .int .i64 bn], .agg #[.int .i64 ar, .int .i64 an], lva] W fun e w' => e = .returned (.bool false) ∧ Below W.heap.size W w' :=
  (promise_any W B g ga n f r pv lv h.at_ h.pos from_ br bn ar an lo hi lva l hL hhi hlo (A 4) (h.e hE (by simp))).mono fun e w' hp => by
    rcases hp with ⟨_, h1, h2⟩ | ⟨h1, h2, j, h3, h4, h5, _⟩
    · exact ⟨h1, h2⟩
    · exact absurd ⟨h1, h2, j, h3, h4, h5⟩ hf
theorem RS.promise_yes (h : RS w B g ga n f r pv lv W) (hE : E13 w A) {j : Nat} {br bn ar an : Int} {lo hi : Nat} {lva : Value} {l : List Cmd} (hL : LedAt W lo hi lva l) (hhi : hi ≤ W.heap.size) (hlo : ga < lo ∨ hi ≤ ga) (h1 : r.stage = 1) (h2 : br = r.br ∧ bn = r.bn) (hj : j < n) (hf : f j = false) :
    Calls Tryd.prog 58 #[.pointer (some ⟨g, 0, none⟩), .int .i64 j, .agg #[.int .i64 br, .int .i64 bn], .agg #[.int .i64 ar, .int .i64 an], lva] W fun e w' => e = .returned (.bool true) ∧
      ∃ lv', RS w B g ga n (promF n f j) (r.promised n f j ar an l) pv lv' w' ∧ Fr W.heap.size (fun k => k = g ∨ k = ga) W w' ∧ ((lv' = lv ∧ (r.promised n f j ar an l).led = r.led) ∨ OwnLed w' W.heap.size w'.heap.size lv' (r.promised n f j ar an l).led) :=
  (promise_any W B g ga n f r pv lv h.at_ h.pos j br bn ar an lo hi lva l hL hhi hlo (A 4) (h.e hE (by simp))).mono fun e w' hp => by
    rcases hp with ⟨hno, _⟩ | ⟨_, _, j', e1, _, _, h4, lv', h5, h6, h7⟩
    · exact absurd ⟨h1, h2, j, rfl, hj, hf⟩ hno
    · obtain rfl : j = j' := by omega
      exact ⟨h4, lv', h.step h5 h6, h6, h7⟩
theorem RS.accepted_no (h : RS w B g ga n f r pv lv W) {from_ br bn : Int} (hf : ¬ fitsR r n f 2 from_ br bn) :
    Calls Tryd.prog 62 #[.pointer (some ⟨g, 0, none⟩), .int .i64 from_, .agg #[.int .i64 br, .int .i64 bn]] W fun e w' => e = .returned (.bool false) ∧ Below W.heap.size W w' :=
  (accepted13_any W B g ga n f r pv lv h.at_ from_ br bn).mono fun e w' hp => by
    rcases hp with ⟨_, h1, h2⟩ | ⟨h1, h2, j, h3, h4, h5, _⟩
    · exact ⟨h1, h2⟩
    · exact absurd ⟨h1, h2, j, h3, h4, h5⟩ hf
theorem RS.accepted_yes (h : RS w B g ga n f r pv lv W) {j : Nat} {br bn : Int} (h1 : r.stage = 2) (h2 : br = r.br ∧ bn = r.bn) (hj : j < n) (hf : f j = false) :
    Calls Tryd.prog 62 #[.pointer (some ⟨g, 0, none⟩), .int .i64 j, .agg #[.int .i64 br, .int .i64 bn]] W fun e w' => e = .returned (.bool true) ∧
      RS w B g ga n (upd f j true) { r with stage := if half n ≤ (cnt n (upd f j true) : Nat) then 3 else 2 } pv lv w' ∧ Fr W.heap.size (fun k => k = g ∨ k = ga) W w' :=
  (accepted13_any W B g ga n f r pv lv h.at_ j br bn).mono fun e w' hp => by
    rcases hp with ⟨hno, _⟩ | ⟨_, _, j', e1, _, _, h4, h5, h6⟩
    · exact absurd ⟨h1, h2, j, rfl, hj, hf⟩ hno
    · obtain rfl : j = j' := by omega
      exact ⟨h4, h.step h5 h6, h6⟩
theorem RS.stage (h : RS w B g ga n f r pv lv W) : Calls Tryd.prog 56 #[.pointer (some ⟨g, 0, none⟩)] W fun e w' => e = .returned (.int .i64 r.stage) ∧ Below W.heap.size W w' := stage_any W B g ga n f r pv lv h.at_
theorem RS.ledger (h : RS w B g ga n f r pv lv W) : Calls Tryd.prog 60 #[.pointer (some ⟨g, 0, none⟩)] W fun e w' => ∃ v, e = .returned v ∧ OwnLed w' W.heap.size w'.heap.size v r.tells ∧ Below W.heap.size W w' := rledger_any W B g ga n f r pv lv h.at_
theorem RS.place (h : RS w B g ga n f r pv lv W) (hE : E13 w A) : Calls Tryd.prog 61 #[.pointer (some ⟨g, 0, none⟩)] W fun e w' => e = .returned (.int .i64 r.place) ∧ Below W.heap.size W w' := rplace_any W B g ga n f r pv lv h.at_ (A 10) (h.e hE (by simp))
/-- A new round. -/
theorem RS.of_new {n : Nat} {c : Cmd} {reads : Bool} {e : Ending} {w0 : World} (hb : Below w0.heap.size w0 w) (hn : 0 < n) (h : New13Post n c reads w e W) :
    ∃ ga pv', e = .returned (.tuple #[.pointer (some ⟨ga + 1, 0, none⟩), .nilIface]) ∧ RS w0 W.heap.size (ga + 1) ga n (fun _ => false) ⟨c, reads, 0, 0, 0, 0, 0, [], 0⟩ pv' (.slice none 0 0) W ∧ Below w.heap.size w W := by
  obtain ⟨ga, pv', rfl, h1, h2, h3, h4, h5⟩ := h
  have := hb.size
  exact ⟨ga, pv', rfl, ⟨h3, hb.trans (h5.mono hb.size), ⟨by omega, by omega⟩, hn⟩, h5⟩
end
end Go.Proofs.YtnlncfjibbdimaaDoor

namespace Go.Proofs.YtnlncfjibbdimaaDoor
open Go.RowKit
set_option linter.unusedSimpArgs false
set_option linter.unusedVariables false

/-- The command of the examples. -/
def mk1 : Cmd := ⟨1, 0, 0, 0, ⟨#[97, 97, 97]⟩, ⟨#[]⟩, 0, 0, 0, 0, 0, 0, 0, ⟨#[]⟩, 0, [], 0, 0⟩
theorem mk1_sized : mk1.Sized := by unfold Cmd.Sized mk1; decide
theorem mk1_chk : chkB mk1 = true := by decide +kernel

set_option maxRecDepth 100000 in
theorem res54 (a : Array Value) (x : Nat) (cells : List Value) (W : World) (hl : cells.length = 18) (hX : Blk W x 81 cells.toArray) (h2 : a.getD 0 undef = .pointer (some ⟨x, 0, none⟩)) : (results Tryd.f54 a).run Tryd.prog W = .ok (.agg cells.toArray) W := by
  have hld := run_loadVar_mid (P := Tryd.prog) W x 0 81 cells _ hX.range Tryd.underlying81 rfl (by rw [hl]; exact cmd_info)
  simp at h2
  simp [go_sem] at hld
  simp [results, Tryd.results54, go_sem, hld, h2]

set_option maxRecDepth 100000 in
set_option maxHeartbeats 800000 in
theorem make1_any (w : World) : Calls Tryd.prog 54 #[] w fun e w' => e = .returned (.agg (mk1.cells (.slice none 0 0)).toArray) ∧ Below w.heap.size w w' := by
  go_enter Tryd.func54, Tryd.ntmps54
  go_wp2_with (first | ((with_reducible refine law_store_fresh 81 (.tmp 0) (.tmp 1) w 81 _ (mk1.cells (.slice none 0 0)).toArray ?_ ?_ rfl ?_ ?_ (cells_oneCell _ _ _ _) ?_); rfl; rfl; exact cmd_info; rfl) | fail)
  have hX := Blk.new w 81 (mk1.cells (.slice none 0 0)).toArray
  exact bodyPost_ret (res54 _ w.heap.size _ _ rfl hX rfl) rfl ⟨rfl, (Below.refl _ _).alloc (Nat.le_refl _) _⟩

theorem mk1_put : putL [] mk1 = some [mk1] := by unfold putL; rw [if_neg (by decide +kernel), if_neg (by decide)]; rfl
theorem mk1_idx : idxN [mk1] 0 0 0 = 0 := by decide +kernel
/-- The example's round, from step to step. -/
def rA (r : Rnd) : Rnd := { r with br := 1, bn := 0, stage := 1, nr := 0, nn := 0, led := [], begun := wrap64 (r.begun + 1) }
def r0 : Rnd := ⟨mk1, false, 0, 0, 0, 0, 0, [], 0⟩
def r1 : Rnd := ⟨mk1, false, 1, 0, 1, 0, 0, [], 1⟩
def r2 : Rnd := ⟨mk1, false, 1, 0, 2, 0, 0, [mk1], 1⟩
def r3 : Rnd := ⟨mk1, false, 1, 0, 3, 0, 0, [mk1], 1⟩
theorem one_wrap : wrap64 ((0 : Int) + 1) = 1 := by decide +kernel
theorem r0_r1 : ({ r0 with br := 1, bn := 0, stage := 1, nr := 0, nn := 0, led := [], begun := wrap64 (r0.begun + 1) } : Rnd) = r1 := by
  show (⟨mk1, false, 1, 0, 1, 0, 0, [], wrap64 ((0 : Int) + 1)⟩ : Rnd) = _
  rw [one_wrap]; rfl
theorem r1_one : r1.promised 3 (fun _ => false) 0 0 0 [] = r1 := by
  unfold Rnd.promised
  rw [if_neg (by decide +kernel)]
  unfold Rnd.newer
  rw [if_neg (by decide)]
theorem f1_one : promF 3 (fun _ => false) 0 = upd (fun _ => false) 0 true := by
  unfold promF
  rw [if_neg (by decide +kernel)]
theorem r1_two : r1.promised 3 (upd (fun _ => false) 0 true) 2 0 0 [] = r2 := by
  unfold Rnd.promised
  rw [if_pos (by decide +kernel)]
  unfold Rnd.newer
  rw [if_neg (by decide)]
  unfold Rnd.tell
  rw [if_neg (by decide)]
  have : putL r1.led r1.cmd = some [mk1] := mk1_put
  rw [this]
  rfl
theorem f1_two : promF 3 (upd (fun _ => false) 0 true) 2 = fun _ => false := by
  unfold promF
  rw [if_pos (by decide +kernel)]
theorem r2_one : ({ r2 with stage := if half (3 : Nat) ≤ (cnt 3 (upd (fun _ => false) 1 true) : Nat) then 3 else 2 } : Rnd) = r2 := by rw [if_neg (by decide +kernel)]; rfl
theorem r2_two : ({ r2 with stage := if half (3 : Nat) ≤ (cnt 3 (upd (upd (fun _ => false) 1 true) 2 true) : Nat) then 3 else 2 } : Rnd) = r3 := by rw [if_pos (by decide +kernel)]; rfl
theorem LedAt.nil13 (w : World) : LedAt w 0 0 (.slice none 0 0) [] := (OwnLed.nil_ _ _ _).at_

set_option maxRecDepth 100000 in
set_option maxHeartbeats 1600000 in
theorem alive13_any (w : World) (A : Nat → Addr) (hE : E13 w A) : Calls Tryd.prog 52 #[] w fun e w' => e = .returned (.bool true) ∧ Below w.heap.size w w' := by
  have k54 := make1_any w
  have k53 : ∀ W, Below w.heap.size w W → Calls Tryd.prog 53 #[.int .i64 3, .agg (mk1.cells (.slice none 0 0)).toArray, .bool false] W (New13Post 3 mk1 false W) := fun W b =>
    new13_cmd W 3 mk1 mk1_sized (.slice none 0 0) 0 0 ⟨none, 0, rfl, Nat.le_refl _, by simp [maxLen], by simp [mk1], by simp [mk1, ints], fun h => by simp [mk1] at h⟩ (Nat.zero_le _) ⟨by omega, by omega⟩ (A 1) ((hE.below b) 1 (by simp)) mk1_chk
  have HK := Lib.hid (And.intro k54 k53)
  clear k54 k53
  have HE := Lib.hid hE
  clear hE
  go_enter Tryd.func52, Tryd.ntmps52
  go_upto_region 3 with (first
    | (go_at_call 54; refine HK.out.1.mono ?_; rintro e w1 ⟨rfl, b1⟩; have H1 := Lib.hid b1; clear b1)
    | (go_at_call 53
       refine (HK.out.2 w1 H1.out).mono ?_
       rintro e w2 h2
       obtain ⟨ga, pv, rfl, R, b2⟩ := RS.of_new H1.out (by omega) h2
       have H2 := Lib.hid R
       clear R b2 h2)
    | fail)
  have P0 := H2.out
  refine wp_letter (fun W => RS w w2.heap.size (ga + 1) ga 3 (fun _ => false) r0 pv (.slice none 0 0) W ∧ Blk W w2.heap.size 23 #[.int .i64 1, .int .i64 0]) ⟨P0.below ((Below.refl _ _).alloc (Nat.le_refl _) _), Blk.new w2 23 _⟩ ?_
  clear P0
  rintro W3 ⟨R3, X3⟩
  obtain ⟨x, hx⟩ : ∃ x, x = w2.heap.size := ⟨_, rfl⟩
  rw [← hx] at X3 R3 ⊢
  have hga : ga + 1 < x := R3.at_.hg
  clear hx
  obtain ⟨g, hg⟩ : ∃ g, g = ga + 1 := ⟨_, rfl⟩
  rw [← hg] at R3 ⊢
  have hxg : x ≠ g ∧ x ≠ ga := by omega
  have hgg : ga < 0 ∨ 0 ≤ ga := by omega
  clear hg hga H2 H1
  have k4 := R3.begin_ HE.out (br := 1) (bn := 0) (by decide) (by decide) (by decide)
  have x04 := X3.cell 0
  have x14 := X3.cell 1
  have HC4 := Lib.hid (And.intro k4 X3)
  clear k4 X3 R3
  go_upto_region 5 with (first
    | (go_at_call 55
       refine HC4.out.1.mono ?_
       rintro e W4 ⟨rfl, R4, F4⟩)
    | fail)
  clear x04 x14
  have X4 := HC4.out.2.fr F4 HC4.out.2.lt (by have := hxg.1; have := hxg.2; omega)
  clear F4
  have R4' : RS w x g ga 3 (fun _ => false) r1 pv (.slice none 0 0) W4 := by rw [← r0_r1]; exact R4
  clear R4
  have R4 := R4'
  clear R4'
  have k5 := R4.promise_yes HE.out (j := 0) (br := 1) (bn := 0) (ar := 0) (an := 0) (LedAt.nil13 _) (Nat.zero_le _) (.inr (Nat.zero_le _)) (by rfl) ⟨rfl, rfl⟩ (by omega) rfl
  have x05 := X4.cell 0
  have x15 := X4.cell 1
  have HC5 := Lib.hid (And.intro k5 X4)
  clear k5 X4 R4
  go_upto_region 6 with (first
    | (go_at_call 58
       refine HC5.out.1.mono ?_
       rintro e W5 ⟨rfl, lv5, R5, F5, _⟩)
    | fail)
  clear x05 x15
  have X5 := HC5.out.2.fr F5 HC5.out.2.lt (by have := hxg.1; have := hxg.2; omega)
  clear F5
  rw [r1_one, f1_one] at R5
  have k6 := R5.promise_no HE.out (from_ := 0) (br := 1) (bn := 0) (ar := 0) (an := 0) (LedAt.nil13 _) (Nat.zero_le _) (.inr (Nat.zero_le _)) (fun h => by obtain ⟨_, _, j, hj, _, hf⟩ := h; obtain rfl : j = 0 := (by omega); cases hf)
  have x06 := X5.cell 0
  have x16 := X5.cell 1
  have HC6 := Lib.hid (And.intro k6 (And.intro X5 R5))
  clear k6 X5 R5
  go_upto_region 7 with (first
    | (go_at_call 58
       refine HC6.out.1.mono ?_
       rintro e W6 ⟨rfl, b6⟩)
    | fail)
  clear x06 x16
  have X6 := HC6.out.2.1.below b6 HC6.out.2.1.lt
  have R6 := HC6.out.2.2.below b6
  clear b6
  have k7 := R6.promise_yes HE.out (j := 2) (br := 1) (bn := 0) (ar := 0) (an := 0) (LedAt.nil13 _) (Nat.zero_le _) (.inr (Nat.zero_le _)) (by rfl) ⟨rfl, rfl⟩ (by omega) rfl
  have x07 := X6.cell 0
  have x17 := X6.cell 1
  have HC7 := Lib.hid (And.intro k7 X6)
  clear k7 X6 R6
  go_upto_region 8 with (first
    | (go_at_call 58
       refine HC7.out.1.mono ?_
       rintro e W7 ⟨rfl, lv7, R7, F7, _⟩)
    | fail)
  clear x07 x17
  have X7 := HC7.out.2.fr F7 HC7.out.2.lt (by have := hxg.1; have := hxg.2; omega)
  clear F7
  rw [r1_two, f1_two] at R7
  have k8 := R7.accepted_yes (j := 1) (br := 1) (bn := 0) (by rfl) ⟨rfl, rfl⟩ (by omega) rfl
  have x08 := X7.cell 0
  have x18 := X7.cell 1
  have HC8 := Lib.hid (And.intro k8 X7)
  clear k8 X7 R7
  go_upto_region 9 with (first
    | (go_at_call 62
       refine HC8.out.1.mono ?_
       rintro e W8 ⟨rfl, R8, F8⟩)
    | fail)
  clear x08 x18
  have X8 := HC8.out.2.fr F8 HC8.out.2.lt (by have := hxg.1; have := hxg.2; omega)
  clear F8
  rw [r2_one] at R8
  have k9 := R8.accepted_yes (j := 2) (br := 1) (bn := 0) (by rfl) ⟨rfl, rfl⟩ (by omega) rfl
  have x09 := X8.cell 0
  have x19 := X8.cell 1
  have HC9 := Lib.hid (And.intro k9 X8)
  clear k9 X8 R8
  go_upto_region 10 with (first
    | (go_at_call 62
       refine HC9.out.1.mono ?_
       rintro e W9 ⟨rfl, R9, F9⟩)
    | fail)
  clear x09 x19
  have X9 := HC9.out.2.fr F9 HC9.out.2.lt (by have := hxg.1; have := hxg.2; omega)
  clear F9
  rw [r2_two] at R9
  have k10 := R9.stage
  have k11 : ∀ W, Below W9.heap.size W9 W → Calls Tryd.prog 61 #[.pointer (some ⟨g, 0, none⟩)] W fun e w' => e = .returned (.int .i64 1) ∧ Below W.heap.size W w' := fun W b => (R9.below b).place HE.out
  have HF := Lib.hid (And.intro k10 (And.intro k11 R9.bel))
  clear k10 k11 R9 X9
  go_wp2_with (first
    | (go_at_call 56; refine HF.out.1.mono ?_; rintro e W10 ⟨rfl, b10⟩; have H10 := Lib.hid b10; clear b10)
    | (go_at_call 61; refine (HF.out.2.1 W10 H10.out).mono ?_; rintro e W11 ⟨rfl, b11⟩; have H11 := Lib.hid b11; clear b11)
    | fail)
  go_ret
  exact ⟨rfl, (HF.out.2.2.trans (H10.out.mono HF.out.2.2.size)).trans (H11.out.mono (HF.out.2.2.trans (H10.out.mono HF.out.2.2.size)).size)⟩
end Go.Proofs.YtnlncfjibbdimaaDoor
