/-
  BallotAgrees: a round's preparing, in memory: what its loop keeps, step by step. No walk stands here.
-/
import Derived.Test.YtnlncfjibbdimaaDoorAgreeM
import Derived.Test.YtnlncfjibbdimaaDoorRCopy
namespace Go.Proofs.YtnlncfjibbdimaaDoor
open Go.RowKit
set_option linter.unusedSimpArgs false
set_option linter.unusedVariables false

/-- Since world w: acceptors, the newest ledger that was told. seen: who has promised. -/
structure Askd (M : Nat → Prop) (w : World) (B n half K : Nat) (g : Nat → Nat) (A : Option Addr) (v : Vt) (r nn : Int) (M' : Nat → Prop) (s' : Nat → Acc) (seen : Nat → Bool) (m : Bl) (L : List Cmd) (lv : Value) (w' : World) : Prop where
  accs : AccsF M' w' B n g s'
  ptr : PtrsF M' w' A n g
  led : Lf M' w' lv L
  bal : Ballots n half (fun i => aof (s' i)) v
  told : Told n r nn s' seen m L
  short : ∀ i, i < n → (s' i).led.length ≤ K
  hL : L.length ≤ K
  up : ∀ k, M k → M' k
  new : ∀ k, M' k → M k ∨ w.heap.size ≤ k
  lt : ∀ k, M' k → k < w'.heap.size
  fr : Fr w.heap.size (fun k => ∃ i, i < n ∧ k = g i) w w'
  gN : ∀ i, i < n → g i < w.heap.size

section
variable {M M' : Nat → Prop} {w w1 w2 : World} {B n half K : Nat} {g : Nat → Nat} {A : Option Addr} {v : Vt} {r nn : Int} {s s' : Nat → Acc} {seen : Nat → Bool} {m : Bl} {L : List Cmd} {lv : Value} {j : Nat}
theorem Askd.start (hacc : AccsF M w B n g s) (hptr : PtrsF M w A n g) (hbal : Ballots n half (fun i => aof (s i)) v) (hshort : ∀ i, i < n → (s i).led.length ≤ K) (hlt : ∀ k, M k → k < w.heap.size) (hled : Lf M w lv []) : Askd M w B n half K g A v r nn M s (fun _ => false) (0, 0) [] lv w :=
  ⟨hacc, hptr, hled, hbal, Told.start n r nn s, hshort, Nat.zero_le _, fun _ h => h, fun _ h => .inl h, hlt, Fr.refl _ _ _, fun i hi => by have := hacc.lt hi; have := hacc.hB; omega⟩
theorem Askd.size (h : Askd M w B n half K g A v r nn M' s' seen m L lv w1) : w.heap.size ≤ w1.heap.size := h.fr.size
/-- One block more that changes. -/
theorem Askd.more (h : Askd M w B n half K g A v r nn M' s' seen m L lv w1) {q : Nat} (hb : Below w1.heap.size w1 w2) (hq : w1.heap.size ≤ q) (hq2 : q < w2.heap.size) : Askd M w B n half K g A v r nn (fun k => M' k ∨ k = q) s' seen m L lv w2 := by
  have hM : ∀ k, M' k ∨ k = q → M' k ∨ w1.heap.size ≤ k := fun k hk => by
    rcases hk with h | h
    · exact .inl h
    · exact .inr (by omega)
  have f := Fr.of_below hb (fun _ => False)
  have hs := h.fr.size
  have hs2 := hb.size
  refine ⟨(h.accs.grow hM (fun i hi => .inl (h.accs.in_ i hi))).fr f (Nat.le_refl _) (fun _ h => h.elim) (fun _ _ h => h), (h.ptr.grow hM).fr f (Nat.le_refl _) (fun _ h => h.elim), (h.led.grow hM).fr f (Nat.le_refl _) (fun _ h => h.elim), h.bal, h.told, h.short, h.hL, fun k hk => .inl (h.up k hk), fun k hk => ?_, fun k hk => ?_, h.fr.trans (f.mono (by omega) (fun _ _ h => h.elim)), h.gN⟩
  · rcases hk with hk | hk
    · exact h.new k hk
    · exact .inr (by omega)
  · rcases hk with hk | hk
    · have := h.lt k hk; omega
    · omega
/-- Only blocks of the call's own that are none of these change. -/
theorem Askd.keep (h : Askd M w B n half K g A v r nn M' s' seen m L lv w1) {S : Nat → Prop} (f : Fr w1.heap.size S w1 w2) (hS : ∀ k, S k → M' k ∧ w.heap.size ≤ k) : Askd M w B n half K g A v r nn M' s' seen m L lv w2 := by
  have hs := h.fr.size
  refine ⟨h.accs.fr f (Nat.le_refl _) (fun k hk => (hS k hk).1) (fun i hi hk => ?_), h.ptr.fr f (Nat.le_refl _) (fun k hk => (hS k hk).1), h.led.fr f (Nat.le_refl _) (fun k hk => (hS k hk).1), h.bal, h.told, h.short, h.hL, h.up, h.new, fun k hk => Nat.lt_of_lt_of_le (h.lt k hk) f.size, h.fr.step f hs (fun k hk hs' => ?_), h.gN⟩
  · have := (hS _ hk).2
    have := h.gN i hi
    omega
  · have := (hS _ hs').2
    omega
theorem Askd.below (h : Askd M w B n half K g A v r nn M' s' seen m L lv w1) (f : Below w1.heap.size w1 w2) : Askd M w B n half K g A v r nn M' s' seen m L lv w2 :=
  h.keep (Fr.of_below f (fun _ => False)) (fun _ h => h.elim)
/-- Behind acceptor j's call. -/
theorem Askd.call (h : Askd M w B n half K g A v r nn M' s' seen m L lv w1) (hj : j < n) (f : Fr w1.heap.size (· = g j) w1 w2) {lo hi : Nat} (hlo : ∀ k, M' k → k < lo ∨ hi ≤ k) (hA : AccL w2 B lo hi (g j) 156 ((s' j).prep r nn)) :
    Askd M w B n half K g A v r nn M' (upd s' j ((s' j).prep r nn)) seen m L lv w2 := by
  have hs := h.fr.size
  refine ⟨h.accs.step hj f ⟨lo, hi, hA, hlo⟩, h.ptr.fr f (Nat.le_refl _) (fun k hk => by rw [hk]; exact h.accs.in_ j hj), h.led.fr f (Nat.le_refl _) (fun k hk => by rw [hk]; exact h.accs.in_ j hj), h.bal.prep j r nn, h.told.prep j, fun i hi => ?_, h.hL, h.up, h.new, fun k hk => Nat.lt_of_lt_of_le (h.lt k hk) f.size, h.fr.step f hs (fun k hk hk' => ⟨j, hj, hk'⟩), h.gN⟩
  unfold upd
  split
  · rename_i e
    rw [(prep_keeps _ _ _).2.2]
    exact h.short j hj
  · exact h.short i hi
/-- The new ledger that was told lies in memory of the call's own. -/
theorem Lf.own {lo hi : Nat} {u : Value} {l : List Cmd} (h : OwnLed w2 lo hi u l) (hhi : hi ≤ w2.heap.size) (hlt : ∀ k, M' k → k < lo) : Lf M' w2 u l :=
  ⟨lo, hi, h.at_, hhi, fun k hk => .inl (hlt k hk)⟩
/-- It counts: it was told what is no newer. -/
theorem Askd.count (h : Askd M w B n half K g A v r nn M' (upd s' j ((s' j).prep r nn)) seen m L lv w1) (ht : Told n r nn s' seen m L) (hj : j < n) (hr : (s' j).refuse r nn = 0) (hb : ¬ blt m ((s' j).ar, (s' j).an)) :
    Askd M w B n half K g A v r nn M' (upd s' j ((s' j).prep r nn)) (upd seen j true) m L lv w1 := by
  have := ht.more hj hr
  rw [if_neg hb, if_neg hb] at this
  exact ⟨h.accs, h.ptr, h.led, h.bal, this, h.short, h.hL, h.up, h.new, h.lt, h.fr, h.gN⟩
/-- It counts: it was told something newer. -/
theorem Askd.newer (h : Askd M w B n half K g A v r nn M' (upd s' j ((s' j).prep r nn)) seen m L lv w1) (ht : Told n r nn s' seen m L) (hj : j < n) (hr : (s' j).refuse r nn = 0) (hb : blt m ((s' j).ar, (s' j).an)) {u : Value} (hu : Lf M' w1 u (s' j).led) (hk : (s' j).led.length ≤ K) :
    Askd M w B n half K g A v r nn M' (upd s' j ((s' j).prep r nn)) (upd seen j true) ((s' j).ar, (s' j).an) (s' j).led u w1 := by
  have := ht.more hj hr
  rw [if_pos hb, if_pos hb] at this
  exact ⟨h.accs, h.ptr, hu, h.bal, this, h.short, hk, h.up, h.new, h.lt, h.fr, h.gN⟩
end

/-! ### One command more -/

theorem append_cmd {W : World} {lo q n : Nat} {v : Value} {l : List Cmd} {c : Cmd} (hO : OwnLed W lo W.heap.size v l) (hlo : lo ≤ W.heap.size) (hB : Blk W q 81 (c.cells (.slice none 0 0)).toArray) (hp : c.parts = []) (hn : n = l.length) (hl : (n + 1) * 184 ≤ 140737488355328) :
    ∃ A' c' W', (Builtin.append_ #[46, 46] 46 #[v, .slice (some ⟨q, 0, none⟩) 1 1]).run Tryd.prog W = .ok (.slice A' (n + 1) c') W' ∧ OwnLed W' lo W'.heap.size (.slice A' (n + 1) c') (l ++ [c]) ∧ Below lo W W' := by
  obtain ⟨i1, z1, hi1, hz11, hz12, hz13, hz14⟩ := cmd_info'
  obtain ⟨rows, hown, hlen, hrl, hrows⟩ := hO
  rw [← hn] at hown
  have hrd : Rd W 0 (q + 1) 18 (some ⟨q, 0, none⟩) 1 (c.cells (.slice none 0 0)) :=
    ⟨rfl, fun _ => ⟨_, rfl, Nat.zero_le _, Nat.lt_succ_self _, fun j u hu => by rw [Addr.add_mid]; exact hB.range j u hu⟩⟩
  have h1c : ∀ u ∈ c.cells (.slice none 0 0), u.oneCell' = true := by
    have := cells_oneCell c none 0 0
    simpa using this
  obtain ⟨v1, w1, hrun, hown2, hg, hat⟩ := run_append_any (P := Tryd.prog) W lo 46 46 81 i1 z1 18 184 Tryd.underlying46 hi1 hz11 hz12 hz13 hz14 (by decide) v n rows.flatten hown.1 0 (q + 1) (some ⟨q, 0, none⟩) 1 1 (c.cells (.slice none 0 0)) hrd h1c (by simp only [maxLen]; omega) (by omega) hlo
  have hO1 : OwnRow w1 lo w1.heap.size 81 18 v1 (n + 1) (rows.flatten ++ c.cells (.slice none 0 0)) := ⟨hown2, fun g hg => (hown2.lt g hg).2⟩
  obtain ⟨A1, c1, hv1, _⟩ := hO1.form
  subst hv1
  refine ⟨A1, c1, w1, hrun, ⟨rows ++ [c.cells (.slice none 0 0)], ?_, ?_, ?_, ?_⟩, ?_⟩
  · rw [List.flatten_append, List.length_append]
    rw [hn] at hO1
    subst hn
    simpa using hO1
  · rw [List.length_append]
    subst hn
    exact hl
  · rw [List.length_append, List.length_append, hrl]
    rfl
  · intro i r d hr hd
    by_cases hi : i < rows.length
    · rw [List.getElem?_append_left hi] at hr
      rw [List.getElem?_append_left (by omega)] at hd
      obtain ⟨pv', hpv', hoi⟩ := hrows i r d hr hd
      exact ⟨pv', hpv', (hoi.grown hown.1 (by decide) hg).wider (Nat.le_refl _) hg.size⟩
    · have hi2 : i = rows.length := by
        have := (List.getElem?_eq_some_iff.1 hr).1
        rw [List.length_append, List.length_singleton] at this
        omega
      subst hi2
      rw [List.getElem?_append_right (Nat.le_refl _), Nat.sub_self] at hr
      rw [List.getElem?_append_right (by omega), hrl, Nat.sub_self] at hd
      simp at hr hd
      subst hr hd
      refine ⟨_, rfl, ?_⟩
      rw [hp]
      exact ⟨⟨World.ownsRow_nil _ _ _ _, fun g hg => by simp [Value.ownBlock] at hg⟩, by simp⟩
  · exact (Below.refl lo W).grown hg hlo (fun k hk => (hown.1.lt k hk).1)
theorem wp_append_cmd {o : Oper} {a : Act} {W : World} {K : Act → World → Prop} {Q : Exit → Act → World → Prop} (s x : Operand) (lo q n : Nat) (v : Value) (l : List Cmd) (c : Cmd) (ho : o.op = .call { callee := .builtin .append, args := #[s, x], argTypes := #[46, 46] }) (hty : o.type = 46)
    (hs : a.eval s = v) (hx : a.eval x = .slice (some ⟨q, 0, none⟩) 1 1) (hO : OwnLed W lo W.heap.size v l) (hlo : lo ≤ W.heap.size) (hB : Blk W q 81 (c.cells (.slice none 0 0)).toArray) (hp : c.parts = []) (hn : n = l.length) (hl : (n + 1) * 184 ≤ 140737488355328)
    (h : ∀ A' c' W', OwnLed W' lo W'.heap.size (.slice A' (n + 1) c') (l ++ [c]) → Below lo W W' → K (a.put o.dst (.slice A' (n + 1) c')) W') : o.wp Tryd.prog a W K Q := by
  obtain ⟨A', c', W', hrun, h1, h2⟩ := append_cmd hO hlo hB hp hn hl
  unfold Oper.wp execOp
  simp only [ho, hty, resolve, invoke, builtin, Sem.run_bind, Sem.run_pure, Result.andThen_ok, List.map_toArray, List.map_cons, List.map_nil, hs, hx, hrun]
  exact h A' c' W' h1 h2

end Go.Proofs.YtnlncfjibbdimaaDoor
