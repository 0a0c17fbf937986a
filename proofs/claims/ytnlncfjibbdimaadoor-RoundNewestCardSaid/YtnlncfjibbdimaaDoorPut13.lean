/-
  ledger.Put: a command behind a ledger.
-/
import Derived.Test.YtnlncfjibbdimaaDoorCopy13
import Derived.Test.YtnlncfjibbdimaaDoorPlace13
import Derived.Test.YtnlncfjibbdimaaDoorLex
import Derived.Deep.DeepCutAuto
namespace Go.Proofs.YtnlncfjibbdimaaDoor
open Go.RowKit
set_option linter.unusedSimpArgs false
set_option linter.unusedVariables false

/-- What Put makes of a ledger. -/
def putL (l : List Cmd) (c : Cmd) : Option (List Cmd) := if 0 ≤ idxN l c.idn c.idb c.ids then some l else if 4096 ≤ l.length then none else some (l ++ [c])
/-- The place that Put tells. -/
def putN13 (l : List Cmd) (c : Cmd) : Int := if 0 ≤ idxN l c.idn c.idb c.ids then idxN l c.idn c.idb c.ids + 1 else if 4096 ≤ l.length then 0 else (l.length : Nat) + 1
/-- What Put answers. -/
def PutPost (l : List Cmd) (c : Cmd) (a4 : Addr) (w : World) (e : Ending) (w' : World) : Prop :=
  ∃ v q, e = .returned (.tuple #[v, .int .i64 (putN13 l c), q]) ∧ Below w.heap.size w w' ∧
    ((∃ l', putL l c = some l' ∧ q = .nilIface ∧ OwnLed w' w.heap.size w'.heap.size v l') ∨ (putL l c = none ∧ q = errv a4 ∧ v = .slice none 0 0))

theorem append_led {W : World} {lo : Nat} {v1 v2 : Value} {l1 l2 : List Cmd} (h1 : OwnLed W lo W.heap.size v1 l1) (hlo : lo ≤ W.heap.size) (h2 : OwnLed W lo W.heap.size v2 l2) (hl : (l1.length + l2.length) * 184 ≤ 140737488355328) :
    ∃ v3 W', (Builtin.append_ #[46, 46] 46 #[v1, v2]).run Tryd.prog W = .ok v3 W' ∧ OwnLed W' lo W'.heap.size v3 (l1 ++ l2) ∧ Below lo W W' := by
  obtain ⟨i1, z1, hi1, hz11, hz12, hz13, hz14⟩ := cmd_info'
  obtain ⟨rows1, hown1, _, hrl1, hrows1⟩ := h1
  obtain ⟨rows2, hown2, _, hrl2, hrows2⟩ := h2
  obtain ⟨A2, c2, rfl, _⟩ := hown2.form
  have hrd := Rd.of_own hown2.1 hown2.2
  have hcl : ∀ u ∈ rows2.flatten, u.oneCell' = true := by
    intro u hu
    obtain ⟨r, hr, hu⟩ := List.mem_flatten.1 hu
    obtain ⟨i, hi, rfl⟩ := List.getElem_of_mem hr
    obtain ⟨pv, e, hp⟩ := hrows2 i _ _ (List.getElem?_eq_getElem hi) (List.getElem?_eq_getElem (by omega))
    rw [e] at hu
    obtain ⟨Ap, cp, rfl, _⟩ := hp.at_
    have h1c : ∀ u ∈ (l2[i]'(by omega)).cells (.slice Ap (l2[i]'(by omega)).parts.length cp), u.oneCell' = true := by
      have := cells_oneCell (l2[i]'(by omega)) Ap (l2[i]'(by omega)).parts.length cp
      simpa using this
    exact h1c u hu
  obtain ⟨v3, W3, hrun, hown3, hg, hat⟩ := run_append_any (P := Tryd.prog) W lo 46 46 81 i1 z1 18 184 Tryd.underlying46 hi1 hz11 hz12 hz13 hz14 (by decide) v1 l1.length rows1.flatten hown1.1 lo W.heap.size A2 l2.length c2 rows2.flatten hrd hcl (by simp only [maxLen]; omega) (by omega) hlo
  refine ⟨v3, W3, hrun, ⟨rows1 ++ rows2, ?_, by rw [List.length_append]; omega, by simp [hrl1, hrl2], fun i r d hr hd => ?_⟩, (Below.refl lo W).grown hg hlo (fun k hk => (hown1.1.lt k hk).1)⟩
  · rw [List.flatten_append, List.length_append]
    exact ⟨hown3, fun g hg => (hown3.lt g hg).2⟩
  · by_cases hi : i < rows1.length
    · rw [List.getElem?_append_left hi] at hr
      rw [List.getElem?_append_left (by omega)] at hd
      obtain ⟨pv, e1, e2⟩ := hrows1 i r d hr hd
      exact ⟨pv, e1, (e2.grown hown1.1 (by decide) hg).wider (Nat.le_refl _) hg.size⟩
    · rw [List.getElem?_append_right (by omega)] at hr
      rw [List.getElem?_append_right (by omega), ← hrl1] at hd
      obtain ⟨pv, e1, e2⟩ := hrows2 _ r d hr hd
      exact ⟨pv, e1, (e2.grown hown1.1 (by decide) hg).wider (Nat.le_refl _) hg.size⟩

theorem wp_append_led {o : Oper} {a : Act} {W : World} {K : Act → World → Prop} {Q : Exit → Act → World → Prop} (s x : Operand) (lo : Nat) (v1 v2 : Value) (l1 l2 : List Cmd) (ho : o.op = .call { callee := .builtin .append, args := #[s, x], argTypes := #[46, 46] }) (hty : o.type = 46)
    (hs : a.eval s = v1) (hx : a.eval x = v2) (h1 : OwnLed W lo W.heap.size v1 l1) (hlo : lo ≤ W.heap.size) (h2 : OwnLed W lo W.heap.size v2 l2) (hl : (l1.length + l2.length) * 184 ≤ 140737488355328)
    (h : ∀ v' W', OwnLed W' lo W'.heap.size v' (l1 ++ l2) → Below lo W W' → K (a.put o.dst v') W') : o.wp Tryd.prog a W K Q := by
  obtain ⟨v', W', hrun, h1, h2⟩ := append_led h1 hlo h2 hl
  unfold Oper.wp execOp
  simp only [ho, hty, resolve, invoke, builtin, Sem.run_bind, Sem.run_pure, Result.andThen_ok, List.map_toArray, List.map_cons, List.map_nil, hs, hx, hrun]
  exact h v' W' h1 h2

theorem wp_buildSlice1 {o : Oper} {a : Act} {W : World} {K : Act → World → Prop} {Q : Exit → Act → World → Prop} (x : Operand) (cells : Array Value) (ho : o.op = .buildSlice 46 1 #[(0, x)]) (hx : a.eval x = .agg cells) (hc : cells.size = 18)
    (h : K (a.put o.dst (.slice (some ⟨W.heap.size, 0, none⟩) 1 1)) (W.alloc (.cells cells 81))) : o.wp Tryd.prog a W K Q := by
  obtain ⟨i1, z1, hi1, hz11, hz12, hz13, hz14⟩ := cmd_info'
  have hr := run_buildSlice1 46 81 i1 z1 cells Tryd.underlying46 hi1 hz11 (by rw [hc]; exact hz12) (by rw [hc]; exact hz14) (by omega) (by omega) W
  unfold Oper.wp execOp
  simp only [ho, List.map_toArray, List.map_cons, List.map_nil, hx, Sem.run_bind, hr, Result.andThen_ok, Sem.run_pure]
  exact h

theorem LedAt.one13 {w : World} {lo hi q : Nat} {pv : Value} {c : Cmd} (hB : Blk w q 81 (c.cells pv).toArray) (hp : IntsAt w lo hi pv c.parts) : LedAt w 0 (max hi (q + 1)) (.slice (some ⟨q, 0, none⟩) 1 1) [c] :=
  ⟨_, 1, [c.cells pv], rfl, Nat.le_refl _, by simp [maxLen], by simp, ⟨by simp [Cmd.cells_length], fun _ => ⟨_, rfl, Nat.zero_le _, by simp only; omega, fun j u hu => by rw [Addr.add_mid]; exact hB.range j u (by simpa using hu)⟩⟩, rfl, fun i r d h1 h2 => by
    have hi : i = 0 := by
      have := (List.getElem?_eq_some_iff.1 h1).1
      simp at this
      omega
    subst hi
    simp at h1 h2
    subst h1 h2
    obtain ⟨A, cc, e, q1, q2, q3, q4⟩ := hp
    exact ⟨_, rfl, A, cc, e, q1, q2, q3, q4.wider (Nat.zero_le _) (by omega)⟩⟩

set_option maxRecDepth 100000 in
set_option maxHeartbeats 1600000 in
theorem put_found (w : World) (lo hi : Nat) (v : Value) (l : List Cmd) (h : LedAt w lo hi v l) (hhi : hi ≤ w.heap.size) (c : Cmd) (pv : Value) (a4 : Addr) (hf : 0 ≤ idxN l c.idn c.idb c.ids) :
    Calls Tryd.prog 153 #[v, .agg (c.cells pv).toArray] w (PutPost l c a4 w) := by
  have bA : Below w.heap.size w (w.alloc (.cells (c.cells pv).toArray 81)) := (Below.refl _ _).alloc (Nat.le_refl _) _
  have hX := Blk.new w 81 (c.cells pv).toArray
  have c1 : (w.alloc (.cells (c.cells pv).toArray 81)).cell? ⟨w.heap.size, 1, none⟩ = some (.int .i64 c.idn) := hX.cell 1
  have c2 : (w.alloc (.cells (c.cells pv).toArray 81)).cell? ⟨w.heap.size, 2, none⟩ = some (.int .i64 c.idb) := hX.cell 2
  have c3 : (w.alloc (.cells (c.cells pv).toArray 81)).cell? ⟨w.heap.size, 3, none⟩ = some (.int .i64 c.ids) := hX.cell 3
  have k154 := index_any (w.alloc (.cells (c.cells pv).toArray 81)) lo hi v l (h.fr (Fr.of_below bA (fun _ => False)) hhi (fun _ _ _ h => h)) (Nat.le_trans hhi bA.size) c.idn c.idb c.ids
  have k167 : ∀ W, Below w.heap.size w W → Calls Tryd.prog 167 #[v] W (CopyPost W l) := fun W b => copied167_any W lo hi v l (h.fr (Fr.of_below b (fun _ => False)) hhi (fun _ _ _ h => h)) (Nat.le_trans hhi b.size)
  obtain ⟨A, cap, rfl, hl1, hl2, hl3⟩ := h.form
  obtain ⟨n, hn⟩ : ∃ n, n = l.length := ⟨_, rfl⟩
  rw [← hn] at h k154 k167 ⊢
  have hputL : putL l c = some l := by unfold putL; rw [if_pos hf]
  have hputN : putN13 l c = idxN l c.idn c.idb c.ids + 1 := by unfold putN13; rw [if_pos hf]
  rcases idxN_cases l c.idn c.idb c.ids with hm | ⟨i, hi, hil⟩
  · omega
  · rw [hi] at k154 hputN
    have hi0 : (0 : Int) ≤ i := by omega
    have hw1 : IntKind.i64.wrap ((i : Int) + 1) = (i : Int) + 1 := by rw [IntKind.wrap_i64]; simp only [maxLen] at hl2; omega
    have HK := Lib.hid (And.intro k154 (And.intro k167 (And.intro bA (And.intro hputL hputN))))
    have HN := Lib.hid hn
    clear k154 k167 bA h hX hl1 hl2 hl3 hf hi hil hputL hputN hn
    go_enter Tryd.func153, Tryd.ntmps153
    go_wp2_with (first
      | (go_at_call 154; refine HK.out.1.mono ?_; rintro e w2 ⟨rfl, b2⟩; have H2 := Lib.hid b2; clear b2)
      | (go_at_call 167
         refine (HK.out.2.1 w2 (HK.out.2.2.1.trans (H2.out.mono HK.out.2.2.1.size))).mono ?_
         rintro e w3 ⟨v3, rfl, o3, b3⟩
         obtain ⟨A3, c3', hv3, _⟩ := o3.at_.form
         rw [← HN.out] at hv3
         subst hv3
         have H3 := Lib.hid (And.intro o3 b3)
         clear o3 b3)
      | fail)
    have hb2 := HK.out.2.2.1.trans (H2.out.mono HK.out.2.2.1.size)
    have hret : PutPost l c a4 w (.returned (.tuple #[.slice A3 n c3', .int .i64 ((i : Int) + 1), .nilIface])) w3 :=
      ⟨_, _, by rw [HK.out.2.2.2.2], hb2.trans (H3.out.2.mono hb2.size), .inl ⟨l, HK.out.2.2.2.1, rfl, H3.out.1.wider hb2.size (Nat.le_refl _)⟩⟩
    go_ret3
    exact hret

set_option maxRecDepth 100000 in
set_option maxHeartbeats 1600000 in
theorem put_full (w : World) (lo hi : Nat) (v : Value) (l : List Cmd) (h : LedAt w lo hi v l) (hhi : hi ≤ w.heap.size) (c : Cmd) (pv : Value) (a4 : Addr) (h4 : w.cell? ⟨4, 0, none⟩ = some (errv a4)) (hf : idxN l c.idn c.idb c.ids = -1) (hl : 4096 ≤ l.length) :
    Calls Tryd.prog 153 #[v, .agg (c.cells pv).toArray] w (PutPost l c a4 w) := by
  have h04 := World.block_lt_of_cell? w _ h4
  have bA : Below w.heap.size w (w.alloc (.cells (c.cells pv).toArray 81)) := (Below.refl _ _).alloc (Nat.le_refl _) _
  have hX := Blk.new w 81 (c.cells pv).toArray
  have c1 : (w.alloc (.cells (c.cells pv).toArray 81)).cell? ⟨w.heap.size, 1, none⟩ = some (.int .i64 c.idn) := hX.cell 1
  have c2 : (w.alloc (.cells (c.cells pv).toArray 81)).cell? ⟨w.heap.size, 2, none⟩ = some (.int .i64 c.idb) := hX.cell 2
  have c3 : (w.alloc (.cells (c.cells pv).toArray 81)).cell? ⟨w.heap.size, 3, none⟩ = some (.int .i64 c.ids) := hX.cell 3
  have k154 := index_any (w.alloc (.cells (c.cells pv).toArray 81)) lo hi v l (h.fr (Fr.of_below bA (fun _ => False)) hhi (fun _ _ _ h => h)) (Nat.le_trans hhi bA.size) c.idn c.idb c.ids
  obtain ⟨A, cap, rfl, hl1, hl2, hl3⟩ := h.form
  obtain ⟨n, hn⟩ : ∃ n, n = l.length := ⟨_, rfl⟩
  rw [← hn] at h k154 hl ⊢
  have hputL : putL l c = none := by unfold putL; rw [if_neg (by omega), if_pos (by omega)]
  have hputN : putN13 l c = 0 := by unfold putN13; rw [if_neg (by omega), if_pos (by omega)]
  rw [hf] at k154
  have hn1 : (n : Int) ≥ 4096 := by omega
  have HK := Lib.hid (And.intro k154 (And.intro bA (And.intro hputL hputN)))
  have HG := Lib.hid (show ∀ W, Below w.heap.size w W → W.cell? ⟨4, 0, none⟩ = some (errv a4) from fun W b => (b.cell h04).trans h4)
  clear k154 bA h hX hl1 hl2 hl3 hf hputL hputN hn h4 h04 hl
  go_enter Tryd.func153, Tryd.ntmps153
  go_upto_region 5 with (first
    | (go_at_call 154; refine HK.out.1.mono ?_; rintro e w2 ⟨rfl, b2⟩; have H2 := Lib.hid (HK.out.2.1.trans (b2.mono HK.out.2.1.size)); have cE := HG.out w2 H2.out; clear b2)
    | fail)
  go_region_held3 (fun w' => w'.cell? ⟨4, 0, none⟩ = some (errv a4)) (go_keep) (fail)
  have hret : PutPost l c a4 w (.returned (.tuple #[.slice none 0 0, .int .i64 0, errv a4])) w2.drew :=
    ⟨_, _, by rw [HK.out.2.2.2], H2.out.drew, .inr ⟨HK.out.2.2.1, rfl, rfl⟩⟩
  go_wp2_with (fail)
  go_ret3
  exact hret

set_option maxRecDepth 100000 in
set_option maxHeartbeats 3200000 in
theorem put_more (w : World) (lo hi : Nat) (v : Value) (l : List Cmd) (h : LedAt w lo hi v l) (hhi : hi ≤ w.heap.size) (c : Cmd) (pv : Value) (a4 : Addr) (hpv : IntsAt w 0 w.heap.size pv c.parts) (hf : idxN l c.idn c.idb c.ids = -1) (hl : l.length < 4096) :
    Calls Tryd.prog 153 #[v, .agg (c.cells pv).toArray] w (PutPost l c a4 w) := by
  have bA : Below w.heap.size w (w.alloc (.cells (c.cells pv).toArray 81)) := (Below.refl _ _).alloc (Nat.le_refl _) _
  have hX := Blk.new w 81 (c.cells pv).toArray
  have c1 : (w.alloc (.cells (c.cells pv).toArray 81)).cell? ⟨w.heap.size, 1, none⟩ = some (.int .i64 c.idn) := hX.cell 1
  have c2 : (w.alloc (.cells (c.cells pv).toArray 81)).cell? ⟨w.heap.size, 2, none⟩ = some (.int .i64 c.idb) := hX.cell 2
  have c3 : (w.alloc (.cells (c.cells pv).toArray 81)).cell? ⟨w.heap.size, 3, none⟩ = some (.int .i64 c.ids) := hX.cell 3
  have k154 := index_any (w.alloc (.cells (c.cells pv).toArray 81)) lo hi v l (h.fr (Fr.of_below bA (fun _ => False)) hhi (fun _ _ _ h => h)) (Nat.le_trans hhi bA.size) c.idn c.idb c.ids
  obtain ⟨A, cap, rfl, hl1, hl2, hl3⟩ := h.form
  obtain ⟨n, hn⟩ : ∃ n, n = l.length := ⟨_, rfl⟩
  rw [← hn] at h k154 hl ⊢
  have hputL : putL l c = some (l ++ [c]) := by unfold putL; rw [if_neg (by omega), if_neg (by omega)]
  have hputN : putN13 l c = (n : Int) + 1 := by unfold putN13; rw [if_neg (by omega), if_neg (by omega), hn]
  rw [hf] at k154
  have hn1 : ¬ (n : Int) ≥ 4096 := by omega
  have HK := Lib.hid (And.intro k154 (And.intro bA (And.intro hputL (And.intro hputN (And.intro hX (And.intro h hpv))))))
  have HN := Lib.hid hn
  clear k154 bA h hX hl1 hl2 hl3 hf hputL hputN hn hl hpv
  go_enter Tryd.func153, Tryd.ntmps153
  go_upto_region 6 with (first
    | (go_at_call 154; refine HK.out.1.mono ?_; rintro e w2 ⟨rfl, b2⟩; have H2 := Lib.hid b2; clear b2)
    | fail)
  refine wp_letter (fun W => Below w.heap.size w W ∧ Blk W w.heap.size 81 (c.cells pv).toArray) ⟨HK.out.2.1.trans (H2.out.mono HK.out.2.1.size), HK.out.2.2.2.2.1.below H2.out HK.out.2.2.2.2.1.lt⟩ ?_
  clear c1 c2 c3
  rintro W ⟨hb, hX⟩
  obtain ⟨x, hx⟩ : ∃ x, x = w.heap.size := ⟨_, rfl⟩
  rw [← hx] at hX ⊢
  have hXs : ∀ W', Below W.heap.size W W' → W'.rangeAt x 0 (c.cells pv) := fun W' b => (hX.below b hX.lt).range
  have k167 : ∀ W', Below W.heap.size W W' → Calls Tryd.prog 167 #[.slice A n cap] W' (CopyPost W' l) := fun W' b => by
    have b' := hb.trans (b.mono hb.size)
    exact copied167_any W' lo hi _ l (HK.out.2.2.2.2.2.1.fr (Fr.of_below b' (fun _ => False)) hhi (fun _ _ _ h => h)) (Nat.le_trans hhi b'.size)
  have k167b : ∀ W' q, Below W.heap.size W W' → Blk W' q 81 (c.cells pv).toArray → Calls Tryd.prog 167 #[.slice (some ⟨q, 0, none⟩) 1 1] W' (CopyPost W' [c]) := fun W' q b hq => by
    have b' := hb.trans (b.mono hb.size)
    have hp := HK.out.2.2.2.2.2.2.fr (Fr.of_below b' (fun _ => False)) (Nat.le_refl _) (fun _ _ _ h => h)
    exact copied167_any W' 0 _ _ [c] (LedAt.one13 hq hp) (by have := b'.size; have := hq.lt; omega)
  have HQ := Lib.hid (And.intro hXs (And.intro k167 (And.intro k167b (And.intro hb hx))))
  have hBr : Below W.heap.size W W.drew := (Below.refl W.heap.size W).drew
  clear hX k167 k167b hb hx hXs
  go_cut [8] (fun v8 wx => ∃ A8 c8, v8 = .slice A8 (n + 1) c8 ∧ OwnLed wx W.heap.size wx.heap.size (.slice A8 (n + 1) c8) (l ++ [c]) ∧ Below W.heap.size W wx)
  case first =>
    refine wp_region_held_drew (S := fun w' => Below W.heap.size W w') (by kernel_rfl) hBr (fun _ => ?_)
    refine wpAnyH_take (i := 0) (v := .slice A n cap) rfl (by kernel_rfl) (by kernel_rfl) (by kernel_rfl) (fun _ _ _ h => h) (Or.inl ⟨by kernel_rfl, fun w' hSw => ?_⟩) hBr ?_
    · go_simp
    simp only [List.getElem_toArray, List.getElem_cons_succ, List.getElem_cons_zero, Act.put, List.setIfInBounds_toArray, List.set_cons_zero, List.set_cons_succ]
    refine wpAnyH_take (i := 2) (v := .agg (c.cells pv).toArray) rfl (by kernel_rfl) (by kernel_rfl) (by kernel_rfl) (fun _ _ _ h => h) ?_ hBr ?_
    · refine yieldsIf_load_mid ?_ 81 (.tmp 3) ?_ x 0 ?_ (c.cells pv) _ HQ.out.1 Tryd.underlying81 ?_ cmd_info
      · kernel_rfl
      · rfl
      · kernel_rfl
      · rfl
    simp only [List.getElem_toArray, List.getElem_cons_succ, List.getElem_cons_zero, Act.put, List.setIfInBounds_toArray, List.set_cons_zero, List.set_cons_succ]
    refine wpAnyH_ready (rs := [1, 3]) (by kernel_rfl) (by simp) ?_
    refine AllReadyH.cons rfl (fun K hK => ?_) ?_
    · go_simp
      refine (HQ.out.2.1 _ hBr).mono ?_
      rintro e u1 ⟨v1, rfl, o1, d1⟩
      have hb1 := hBr.trans (d1.mono hBr.size)
      obtain ⟨A1, c1, hv1, _⟩ := o1.at_.form
      rw [← HN.out] at hv1
      subst hv1
      have H1 := Lib.hid (o1.wider hBr.size (Nat.le_refl _))
      clear o1
      refine Shut.out hK _ _ hb1 (fun _ => ?_)
      clear hK K
      refine wpAnyH_ready (rs := [3]) (by kernel_rfl) (by simp) ?_
      refine AllReadyH.cons rfl (fun K hK => ?_) ?_
      · have hb2 : Below W.heap.size W (World.alloc u1 (.cells (c.cells pv).toArray 81)) := hb1.alloc hb1.size _
        have hz2 := Blk.new u1 81 (c.cells pv).toArray
        have k2 := HQ.out.2.2.1 _ _ hb2 hz2
        have o2 := H1.out.fr (Fr.of_below ((Below.refl u1.heap.size u1).alloc (Nat.le_refl _) (.cells (c.cells pv).toArray 81)) (fun _ => False)) (Nat.le_refl _) (fun _ _ _ h => h)
        have H2' := Lib.hid (And.intro k2 (o2.wider (Nat.le_refl _) (by simp : u1.heap.size ≤ (World.alloc u1 (.cells (c.cells pv).toArray 81)).heap.size)))
        clear hz2 k2 o2
        rw [if_pos (by kernel_rfl)]
        refine wp_buildSlice1 (.tmp 25) (c.cells pv).toArray rfl rfl rfl ?_
        refine Shut.out hK _ _ hb2 (fun _ => ?_)
        clear hK K
        simp only [List.getElem_toArray, List.getElem_cons_succ, List.getElem_cons_zero, Act.put, List.setIfInBounds_toArray, List.set_cons_zero, List.set_cons_succ]
        refine wpAnyH_ready (rs := [4]) (by kernel_rfl) (by simp) ?_
        refine AllReadyH.cons rfl (fun K hK => ?_) ?_
        · go_simp
          refine (H2'.out.1).mono ?_
          rintro e u3 ⟨v3, rfl, o3, d3⟩
          have hb3 := hb2.trans (d3.mono hb2.size)
          obtain ⟨A3, c3, hv3, _⟩ := o3.at_.form
          subst hv3
          have H3 := Lib.hid (And.intro (o3.wider hb2.size (Nat.le_refl _)) ((H2'.out.2.fr (Fr.of_below d3 (fun _ => False)) (Nat.le_refl _) (fun _ _ _ h => h)).wider (Nat.le_refl _) d3.size))
          clear o3
          refine Shut.out hK _ _ hb3 (fun _ => ?_)
          clear hK K
          refine wpAnyH_ready (rs := [5]) (by kernel_rfl) (by simp) ?_
          refine AllReadyH.cons rfl (fun K hK => ?_) ?_
          · rw [if_pos (by kernel_rfl)]
            refine wp_append_led (.tmp 24) (.tmp 27) W.heap.size _ _ l [c] rfl rfl rfl rfl H3.out.2 hb3.size H3.out.1 (by have := HN.out; simp only [List.length_singleton]; omega) ?_
            intro v4 W4 o4 d4
            have hb4 := hb3.trans d4
            obtain ⟨A4, c4, hv4, _⟩ := o4.at_.form
            rw [List.length_append, List.length_singleton, ← HN.out] at hv4
            subst hv4
            have H4 := Lib.hid o4
            clear o4
            refine Shut.out hK _ _ hb4 (fun _ => ?_)
            clear hK K
            simp only [List.getElem_toArray, List.getElem_cons_succ, List.getElem_cons_zero, Act.put, List.setIfInBounds_toArray, List.set_cons_zero, List.set_cons_succ]
            refine wpAnyH_take (i := 6) (v := .slice A4 (n + 1) c4) rfl (by kernel_rfl) (by kernel_rfl) (by kernel_rfl) (fun _ _ _ h => h) (Or.inl ⟨by kernel_rfl, fun w' hSw => ?_⟩) hb4 ?_
            · go_simp
            simp only [List.getElem_toArray, List.getElem_cons_succ, List.getElem_cons_zero, Act.put, List.setIfInBounds_toArray, List.set_cons_zero, List.set_cons_succ]
            refine wpAnyH_done (by kernel_rfl) ?_ _
            go_wp2_with (fail)
            go_meet
            exact ⟨_, _, rfl, H4.out, hb4⟩
          exact AllReadyH.nil
        exact AllReadyH.nil
      exact AllReadyH.nil
    refine AllReadyH.cons rfl (fun K hK => ?_) ?_
    · have hb1 : Below W.heap.size W (World.alloc W.drew (.cells (c.cells pv).toArray 81)) := hBr.alloc hBr.size _
      have hz1 := Blk.new W.drew 81 (c.cells pv).toArray
      have HZ := Lib.hid hz1
      clear hz1
      rw [if_pos (by kernel_rfl)]
      refine wp_buildSlice1 (.tmp 25) (c.cells pv).toArray rfl rfl rfl ?_
      refine Shut.out hK _ _ hb1 (fun _ => ?_)
      clear hK K
      simp only [List.getElem_toArray, List.getElem_cons_succ, List.getElem_cons_zero, Act.put, List.setIfInBounds_toArray, List.set_cons_zero, List.set_cons_succ]
      refine wpAnyH_ready (rs := [1]) (by kernel_rfl) (by simp) ?_
      refine AllReadyH.cons rfl (fun K hK => ?_) ?_
      · go_simp
        refine (HQ.out.2.1 _ hb1).mono ?_
        rintro e u1 ⟨v1, rfl, o1, d1⟩
        have hb2 := hb1.trans (d1.mono hb1.size)
        obtain ⟨A1, c1, hv1, _⟩ := o1.at_.form
        rw [← HN.out] at hv1
        subst hv1
        have k2 := HQ.out.2.2.1 _ _ hb2 (HZ.out.below d1 HZ.out.lt)
        have H2' := Lib.hid (And.intro k2 (o1.wider hb1.size (Nat.le_refl _)))
        clear o1 k2
        refine Shut.out hK _ _ hb2 (fun _ => ?_)
        clear hK K
        try simp only [List.getElem_toArray, List.getElem_cons_succ, List.getElem_cons_zero, Act.put, List.setIfInBounds_toArray, List.set_cons_zero, List.set_cons_succ]
        refine wpAnyH_ready (rs := [4]) (by kernel_rfl) (by simp) ?_
        refine AllReadyH.cons rfl (fun K hK => ?_) ?_
        · go_simp
          refine (H2'.out.1).mono ?_
          rintro e u3 ⟨v3, rfl, o3, d3⟩
          have hb3 := hb2.trans (d3.mono hb2.size)
          obtain ⟨A3, c3, hv3, _⟩ := o3.at_.form
          subst hv3
          have H3 := Lib.hid (And.intro (o3.wider hb2.size (Nat.le_refl _)) ((H2'.out.2.fr (Fr.of_below d3 (fun _ => False)) (Nat.le_refl _) (fun _ _ _ h => h)).wider (Nat.le_refl _) d3.size))
          clear o3
          refine Shut.out hK _ _ hb3 (fun _ => ?_)
          clear hK K
          refine wpAnyH_ready (rs := [5]) (by kernel_rfl) (by simp) ?_
          refine AllReadyH.cons rfl (fun K hK => ?_) ?_
          · rw [if_pos (by kernel_rfl)]
            refine wp_append_led (.tmp 24) (.tmp 27) W.heap.size _ _ l [c] rfl rfl rfl rfl H3.out.2 hb3.size H3.out.1 (by have := HN.out; simp only [List.length_singleton]; omega) ?_
            intro v4 W4 o4 d4
            have hb4 := hb3.trans d4
            obtain ⟨A4, c4, hv4, _⟩ := o4.at_.form
            rw [List.length_append, List.length_singleton, ← HN.out] at hv4
            subst hv4
            have H4 := Lib.hid o4
            clear o4
            refine Shut.out hK _ _ hb4 (fun _ => ?_)
            clear hK K
            simp only [List.getElem_toArray, List.getElem_cons_succ, List.getElem_cons_zero, Act.put, List.setIfInBounds_toArray, List.set_cons_zero, List.set_cons_succ]
            refine wpAnyH_take (i := 6) (v := .slice A4 (n + 1) c4) rfl (by kernel_rfl) (by kernel_rfl) (by kernel_rfl) (fun _ _ _ h => h) (Or.inl ⟨by kernel_rfl, fun w' hSw => ?_⟩) hb4 ?_
            · go_simp
            simp only [List.getElem_toArray, List.getElem_cons_succ, List.getElem_cons_zero, Act.put, List.setIfInBounds_toArray, List.set_cons_zero, List.set_cons_succ]
            refine wpAnyH_done (by kernel_rfl) ?_ _
            go_wp2_with (fail)
            go_meet
            exact ⟨_, _, rfl, H4.out, hb4⟩
          exact AllReadyH.nil
        exact AllReadyH.nil
      exact AllReadyH.nil
    exact AllReadyH.nil
  case rest =>
    obtain ⟨A8, c8, rfl, o8, b8⟩ := hcut
    have hb0 := HQ.out.2.2.2.1
    have hret : PutPost l c a4 w (.returned (.tuple #[.slice A8 (n + 1) c8, .int .i64 ((n : Int) + 1), .nilIface])) wc :=
      ⟨_, _, by rw [HK.out.2.2.2.1], hb0.trans (b8.mono hb0.size), .inl ⟨_, HK.out.2.2.1, rfl, o8.wider hb0.size (Nat.le_refl _)⟩⟩
    clear o8 b8 hb0
    go_wp2_with (fail)
    go_ret3
    exact hret

theorem put_any (w : World) (lo hi : Nat) (v : Value) (l : List Cmd) (h : LedAt w lo hi v l) (hhi : hi ≤ w.heap.size) (c : Cmd) (pv : Value) (a4 : Addr) (h4 : w.cell? ⟨4, 0, none⟩ = some (errv a4)) (hpv : IntsAt w 0 w.heap.size pv c.parts) :
    Calls Tryd.prog 153 #[v, .agg (c.cells pv).toArray] w (PutPost l c a4 w) := by
  rcases idxN_cases l c.idn c.idb c.ids with hm | ⟨i, hi', _⟩
  · by_cases hl : 4096 ≤ l.length
    · exact put_full w lo hi v l h hhi c pv a4 h4 hm hl
    · exact put_more w lo hi v l h hhi c pv a4 hpv hm (by omega)
  · exact put_found w lo hi v l h hhi c pv a4 (by omega)
end Go.Proofs.YtnlncfjibbdimaaDoor
