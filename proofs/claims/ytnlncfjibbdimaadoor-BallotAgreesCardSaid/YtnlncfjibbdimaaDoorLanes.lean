/-
  Three rows of one struct that are appended to in whatever order; rows of pairs and of numbers cell by cell.
-/
import Derived.Test.YtnlncfjibbdimaaDoorAgreeM
import Derived.Test.YtnlncfjibbdimaaDoorUntil
import Derived.Test.YtnlncfjibbdimaaDoorRCopy
import Derived.Test.YtnlncfjibbdimaaDoorWriter
namespace Go.Proofs.YtnlncfjibbdimaaDoor
open Go.RowKit
set_option linter.unusedSimpArgs false
set_option linter.unusedVariables false

theorem fill_oneV (size : Nat) (ini cells : Array Value) (v : Value) (hv : v.cells = cells) (h1 : cells.size = size) (h2 : ini.size = size) : Instr.fill (fun j => some (j * size, size)) ini [(0, v)] = some cells := by
  have hf := foldl_set cells.toList 0 ini (by simp [h1, h2])
  have hz : cells.zipIdx = (cells.toList.zipIdx 0).toArray := by rw [← Array.toList_zipIdx, Array.toArray_toList]
  simp only [Instr.fill, hv, Nat.zero_mul, Nat.zero_add]
  rw [if_neg (by simp [h1, h2]), hz, List.foldl_toArray]
  rw [hf]
  simp
theorem run_build1 {P : Program} (t e : TypeId) (i : TypeInfo) (z v : Value) (cells : Array Value) (hv : v.cells = cells) (ht : P.underlying t = some (.slice e)) (hi : P.info? e = some i) (hz : i.zero = some z)
    (hs : i.size = cells.size) (hzs : z.cells.size = cells.size) (h0 : 0 < cells.size) (hle : cells.size ≤ 16777216) (w : World) :
    (Instr.buildSlice t 1 #[(0, v)]).run P w = .ok (.slice (some ⟨w.heap.size, 0, none⟩) 1 1) (w.alloc (.cells cells e)) := by
  have hfill := fill_oneV i.size ((Array.range (1 * i.size)).map (z.cells[· % z.cells.size]!)) cells v hv hs.symm (by simp)
  have h1 : ¬ (1 * i.size > 2 ^ 24) := by omega
  have h2 : ¬ (1 * i.size = 0) := by omega
  simp only [Instr.buildSlice, Sem.run_bind, run_underlying ht, Result.andThen_ok, sizeOf, typeInfo, zeroValue]
  simp [hi, hz, newRow, show ¬ 16777216 < i.size by omega, show ¬ i.size = 0 by omega]
  rw [Nat.one_mul] at hfill
  rw [hfill]
  simp [newObj]
  rfl
theorem wp_build1 {P : Program} {o : Oper} {a : Act} {W : World} {K : Act → World → Prop} {Q : Exit → Act → World → Prop} (t e : TypeId) (x : Operand) (ho : o.op = .buildSlice t 1 #[(0, x)]) (i : TypeInfo) (z v : Value) (cells : Array Value) (hx : a.eval x = v) (hv : v.cells = cells)
    (ht : P.underlying t = some (.slice e)) (hi : P.info? e = some i) (hz : i.zero = some z) (hs : i.size = cells.size) (hzs : z.cells.size = cells.size) (h0 : 0 < cells.size) (hle : cells.size ≤ 16777216)
    (h : K (a.put o.dst (.slice (some ⟨W.heap.size, 0, none⟩) 1 1)) (W.alloc (.cells cells e))) : o.wp P a W K Q := by
  have hr := run_build1 t e i z v cells hv ht hi hz hs hzs h0 hle W
  unfold Oper.wp execOp
  simp only [ho, List.map_toArray, List.map_cons, List.map_nil, hx, Sem.run_bind, hr, Result.andThen_ok, Sem.run_pure]
  exact h

/-! ### Rows, cell by cell -/

section
variable {w w' : World} {base e size n p : Nat} {v u : Value} {xs : List Value}
theorem ownsRow_alloc (h : w.ownsRow base e size v n xs) (o : Obj) : (w.alloc o).ownsRow base e size v n xs := by
  refine ⟨h.1, ?_⟩
  rcases h.2 with h2 | ⟨k, cap, cur, he, hb, hh, hr⟩
  · exact .inl h2
  · have hk : Blk w k e cur := hh
    exact .inr ⟨k, cap, cur, he, hb, hk.alloc o, hr⟩
theorem ownsRow_grown {row : Option Nat} {e' : TypeId} (h : w.ownsRow base e size v n xs) (hg : w.grownBy w' row) (hr : ∀ k, row = some k → ∃ cs, Blk w k e' cs) (hne : e' ≠ e) : w'.ownsRow base e size v n xs := by
  refine ⟨h.1, ?_⟩
  rcases h.2 with h2 | ⟨k, cap, cur, he, hb, hh, hq⟩
  · exact .inl h2
  · have hk : Blk w k e cur := hh
    refine .inr ⟨k, cap, cur, he, hb, hk.grown hg (fun e0 => ?_), hq⟩
    obtain ⟨cs, hc⟩ := hr k e0.symm
    unfold Blk at hc hk
    rw [hc] at hk
    injection hk with hk
    injection hk with _ hk
    exact hne hk
/-- A row of one-cell elements: its slice, and its cells. -/
theorem row_at (h : w.ownsRow base e size v n xs) (hn : 0 < n) : ∃ k cap cur, v = .slice (some ⟨k, 0, none⟩) n cap ∧ n ≤ cap ∧ cap ≤ maxLen ∧ Blk w k e cur ∧ cur.size = cap * size ∧ ∀ (j : Nat) (u : Value), xs[j]? = some u → cur[j]? = some u := by
  rcases h.2 with ⟨_, h2⟩ | ⟨k, cap, cur, he, hb, hh, h1, h2, h3, h4⟩
  · omega
  · refine ⟨k, cap, cur, he, h1, h2, hh, h3, fun j u hj => ?_⟩
    rw [← h4, List.getElem?_take] at hj
    split at hj
    · simpa using hj
    · cases hj
theorem row_form (h : w.ownsRow base e size v n xs) : ∃ A cap, v = .slice A n cap ∧ n ≤ cap ∧ cap ≤ maxLen := by
  rcases h.2 with ⟨rfl, rfl⟩ | ⟨k, cap, cur, he, hb, hh, h1, h2, h3, h4⟩
  · exact ⟨none, 0, rfl, Nat.le_refl _, by simp [maxLen]⟩
  · exact ⟨_, _, he, h1, h2⟩
/-- One cell of a row of numbers is stored over. -/
theorem row_set {k cap : Nat} (h : w.ownsRow base e 1 (.slice (some ⟨k, 0, none⟩) n cap) n xs) (hp : p < n) : (w.setCell ⟨k, p, none⟩ u).ownsRow base e 1 (.slice (some ⟨k, 0, none⟩) n cap) n (xs.set p u) := by
  refine ⟨by rw [List.length_set]; exact h.1, ?_⟩
  rcases h.2 with ⟨h1, _⟩ | ⟨k', cap', cur, he, hb, hh, h1, h2, h3, h4⟩
  · cases h1
  · obtain ⟨rfl, rfl⟩ : k = k' ∧ cap = cap' := by injection he with a b c; injection a with a; injection a with a; exact ⟨a, c⟩
    have hk : Blk w k e cur := hh
    refine .inr ⟨k, cap, _, rfl, hb, hk.set_ p u, h1, h2, by simpa using h3, ?_⟩
    rw [← h4, Array.toList_setIfInBounds, List.take_set]
end

theorem run_store1 {P : Program} {w : World} {g i : Nat} {t ty : TypeId} {cs : Array Value} {u : Value} (hb : Blk w g t cs) (hi : i < cs.size) (hinf : (P.info? ty).map (·.size) = some 1) (h1 : u.oneCell' = true) :
    (storeVar ty ⟨g, i, none⟩ u).run P w = .ok () (w.setCell ⟨g, i, none⟩ u) := by
  have hc : u.cells = #[u] := by cases u <;> first | rfl | cases h1
  have hcell := (hb.cell i).trans (Array.getElem?_eq_getElem hi)
  have hf := hb.frozen i
  cases hq : P.info? ty with
  | none => simp [hq] at hinf
  | some j =>
    have hs : j.size = 1 := by simpa [hq] using hinf
    have hst := run_storeCells_cells (P := P) g i [u] 0 w (fun j hj => by simp at hj; subst hj; simpa using congrArg Option.isSome hcell) (fun j hj => by simp at hj; subst hj; simpa using hf) (fun v hv => by simp at hv; subst hv; exact h1)
    simp only [storeVar, sizeOf, typeInfo, Sem.run_bind, hc]
    simp [hq, hs, hst, World.setCells]
theorem wp_store1 {P : Program} {o : Oper} {a : Act} {w : World} {K : Act → World → Prop} {Q : Exit → Act → World → Prop} (ty : TypeId) (x y : Operand) (ho : o.op = .store ty x y) (g i : Nat) (t : TypeId) (cs : Array Value) (u : Value)
    (hx : a.eval x = .pointer (some ⟨g, i, none⟩)) (hy : a.eval y = u) (hb : Blk w g t cs) (hi : i < cs.size) (hinf : (P.info? ty).map (·.size) = some 1) (h1 : u.oneCell' = true) (h : K (a.put o.dst undef) (w.setCell ⟨g, i, none⟩ u)) : o.wp P a w K Q := by
  unfold Oper.wp execOp
  simp only [ho, hx, hy, Instr.storeAt, Instr.sureAddr, Sem.run_bind, Sem.run_pure, Result.andThen_ok, run_store1 hb hi hinf h1]
  exact h

/-! ### Three rows appended to -/

structure L0 (MG : Nat → Prop) (e : TypeId) (size n : Nat) (v : Value) (xs : List Value) (w : World) : Prop where
  own : w.ownsRow 0 e size v n xs
  old : ∀ k, v.ownBlock = some k → MG k
structure L1 (N : Nat) (MG : Nat → Prop) (e : TypeId) (size n : Nat) (v : Value) (xs news : List Value) (u : Value) (w : World) : Prop where
  l0 : L0 MG e size n v xs w
  src : ∃ k, N ≤ k ∧ u = .slice (some ⟨k, 0, none⟩) 1 1 ∧ Blk w k e news.toArray
structure L2 (N : Nat) (MG : Nat → Prop) (e : TypeId) (size n : Nat) (xs news : List Value) (u : Value) (w : World) : Prop where
  own : w.ownsRow 0 e size u (n + 1) (xs ++ news)
  new : ∀ k, u.ownBlock = some k → MG k ∨ N ≤ k
/-- What stands beside them: the struct's block ga, a box x. -/
structure R9 (N : Nat) (MG : Nat → Prop) (W : World) (ga x : Nat) (c1 c2 c3 : Value) (b : Bl) (w : World) : Prop where
  fr : Fr N MG W w
  sz : N ≤ w.heap.size
  gb : Blk w ga 42 #[c1, c2, c3]
  xb : Blk w x 23 #[.int .i64 b.1, .int .i64 b.2]
  ga_ : MG ga
  xN : ¬ MG x

section
variable {N n size ga x : Nat} {MG : Nat → Prop} {e e' : TypeId} {v c1 c2 c3 u : Value} {xs news : List Value} {w w' W : World} {b : Bl} {row : Option Nat}
theorem L0.alloc (h : L0 MG e size n v xs w) (o : Obj) : L0 MG e size n v xs (w.alloc o) := ⟨ownsRow_alloc h.own o, h.old⟩
theorem L0.grown (h : L0 MG e size n v xs w) (hg : w.grownBy w' row) (hr : ∀ k, row = some k → ∃ cs, Blk w k e' cs) (hne : e' ≠ e) : L0 MG e size n v xs w' := ⟨ownsRow_grown h.own hg hr hne, h.old⟩
theorem L0.build (h : L0 MG e size n v xs w) (hN : N ≤ w.heap.size) (news : List Value) : L1 N MG e size n v xs news (.slice (some ⟨w.heap.size, 0, none⟩) 1 1) (w.alloc (.cells news.toArray e)) :=
  ⟨h.alloc _, _, hN, rfl, Blk.new w e _⟩
theorem L0.blk (h : L0 MG e size n v xs w) : ∀ k, v.ownBlock = some k → ∃ cs, Blk w k e cs := fun k hk => own_blk h.own hk
theorem L1.alloc (h : L1 N MG e size n v xs news u w) (o : Obj) : L1 N MG e size n v xs news u (w.alloc o) := by
  obtain ⟨k, h1, h2, h3⟩ := h.src
  exact ⟨h.l0.alloc o, k, h1, h2, h3.alloc o⟩
theorem L1.grown (h : L1 N MG e size n v xs news u w) (hg : w.grownBy w' row) (hr : ∀ k, row = some k → ∃ cs, Blk w k e' cs) (hne : e' ≠ e) : L1 N MG e size n v xs news u w' := by
  obtain ⟨k, h1, h2, h3⟩ := h.src
  refine ⟨h.l0.grown hg hr hne, k, h1, h2, h3.grown hg (fun e0 => ?_)⟩
  obtain ⟨cs, hc⟩ := hr k e0.symm
  unfold Blk at hc h3
  rw [hc] at h3
  injection h3 with h3
  injection h3 with _ h3
  exact hne h3
theorem L2.alloc (h : L2 N MG e size n xs news u w) (o : Obj) : L2 N MG e size n xs news u (w.alloc o) := ⟨ownsRow_alloc h.own o, h.new⟩
theorem L2.grown (h : L2 N MG e size n xs news u w) (hg : w.grownBy w' row) (hr : ∀ k, row = some k → ∃ cs, Blk w k e' cs) (hne : e' ≠ e) : L2 N MG e size n xs news u w' := ⟨ownsRow_grown h.own hg hr hne, h.new⟩
theorem L2.far (h : L2 N MG e size n xs news u w) (hB : R9 N MG W ga x c1 c2 c3 b w) (hne : 42 ≠ e) (i : Nat) (y : Value) : L2 N MG e size n xs news u (w.setCell ⟨ga, i, none⟩ y) := ⟨ownsRow_far h.own hB.gb hne, h.new⟩
theorem R9.alloc (h : R9 N MG W ga x c1 c2 c3 b w) (o : Obj) : R9 N MG W ga x c1 c2 c3 b (w.alloc o) :=
  ⟨h.fr.alloc h.sz o, by have := h.sz; simp; omega, h.gb.alloc o, h.xb.alloc o, h.ga_, h.xN⟩
theorem R9.grown (h : R9 N MG W ga x c1 c2 c3 b w) (hl : L0 MG e size n v xs w) (hg : w.grownBy w' v.ownBlock) (hne : e ≠ 42) : R9 N MG W ga x c1 c2 c3 b w' := by
  refine ⟨h.fr.grown hg h.sz (fun k hk => .inl (hl.old k hk)), Nat.le_trans h.sz hg.size, h.gb.grown hg (own_ne_blk hl.own h.gb (Ne.symm hne)), h.xb.grown hg (fun e0 => h.xN (hl.old x e0.symm)), h.ga_, h.xN⟩
theorem R9.set0 (h : R9 N MG W ga x c1 c2 c3 b w) (y : Value) : R9 N MG W ga x y c2 c3 b (w.setCell ⟨ga, 0, none⟩ y) :=
  ⟨h.fr.setCell (.inl h.ga_) y, by have := h.sz; simp; omega, by have := h.gb.set_ 0 y; simpa using this, h.xb.far (fun e0 => h.xN (by rw [e0]; exact h.ga_)) y, h.ga_, h.xN⟩
theorem R9.set1 (h : R9 N MG W ga x c1 c2 c3 b w) (y : Value) : R9 N MG W ga x c1 y c3 b (w.setCell ⟨ga, 1, none⟩ y) :=
  ⟨h.fr.setCell (.inl h.ga_) y, by have := h.sz; simp; omega, by have := h.gb.set_ 1 y; simpa using this, h.xb.far (fun e0 => h.xN (by rw [e0]; exact h.ga_)) y, h.ga_, h.xN⟩
theorem R9.set2 (h : R9 N MG W ga x c1 c2 c3 b w) (y : Value) : R9 N MG W ga x c1 c2 y b (w.setCell ⟨ga, 2, none⟩ y) :=
  ⟨h.fr.setCell (.inl h.ga_) y, by have := h.sz; simp; omega, by have := h.gb.set_ 2 y; simpa using this, h.xb.far (fun e0 => h.xN (by rw [e0]; exact h.ga_)) y, h.ga_, h.xN⟩
/-- The append of what has been laid. -/
theorem L1.app {P : Program} {o : Oper} {a : Act} {K : Act → World → Prop} {Q : Exit → Act → World → Prop} (h : L1 N MG e size n v xs news u w) (s y : Operand) (t : TypeId)
    (ho : o.op = .call { callee := .builtin .append, args := #[s, y], argTypes := #[t, t] }) (i : TypeInfo) (z : Value) (bytes : Nat) (ht : P.underlying t = some (.slice e)) (hi : P.info? e = some i) (hz : i.zero = some z)
    (hsize : i.size = size) (hby : i.bytes = bytes) (hzs : z.cells.size = size) (hsz : 0 < size) (hs : a.eval s = v) (hy : a.eval y = u) (hnl : news.length = size) (h1 : ∀ u ∈ news, u.oneCell' = true)
    (h63 : n + 1 ≤ maxLen) (hbytes : (n + 1) * bytes ≤ 140737488355328) (hN : N ≤ w.heap.size)
    (hK : ∀ v' w', L2 N MG e size n xs news v' w' → w.grownBy w' v.ownBlock → K (a.put o.dst v') w') : o.wp P a w K Q := by
  obtain ⟨k, hk, hu, hb⟩ := h.src
  refine wp_append_any w s y t ho 0 e i z size bytes ht hi hz hsize hby hzs hsz v n xs hs h.l0.own k (k + 1) (some ⟨k, 0, none⟩) 1 1 news (by rw [hy, hu]) ⟨by omega, fun _ => ⟨_, rfl, Nat.le_refl _, by simp, fun j u' hj => ?_⟩⟩ h1 h63 hbytes (Nat.zero_le _) (fun v' w' g1 g2 g3 => hK v' w' ⟨g1, fun q hq => ?_⟩ g2)
  · rw [Addr.add_mid, Nat.zero_add, hb.cell j]
    simpa using hj
  · rcases g3 with g3 | g3
    · rw [g3] at hq; exact .inl (h.l0.old q hq)
    · rw [g3] at hq
      have : w.heap.size = q := by injection hq
      exact .inr (by omega)
end

/-! ### The same, in the form that a tree of orders asks -/

def InfoOf (P : Program) (e : TypeId) (size bytes : Nat) : Prop := ∃ i z, P.info? e = some i ∧ i.zero = some z ∧ i.size = size ∧ i.bytes = bytes ∧ z.cells.size = size ∧ 0 < size ∧ size ≤ 16777216
theorem InfoOf.of {P : Program} {e : TypeId} {size bytes : Nat} {z : Value} (h : (P.info? e).map (fun i => (i.zero, i.size, i.bytes)) = some (some z, size, bytes)) (hz : z.cells.size = size) (h0 : 0 < size) (hl : size ≤ 16777216) : InfoOf P e size bytes := by
  cases hi : P.info? e with
  | none => rw [hi] at h; cases h
  | some i =>
    rw [hi] at h
    simp only [Option.map_some, Option.some.injEq, Prod.mk.injEq] at h
    exact ⟨i, z, hi, h.1, h.2.1, h.2.2, hz, h0, hl⟩
/-- A row of elements e was grown, or a block made. -/
def Gro (e : TypeId) (w w' : World) : Prop := ∃ row, w.grownBy w' row ∧ ∀ k, row = some k → ∃ cs, Blk w k e cs

section
variable {N n size bytes ga x : Nat} {MG : Nat → Prop} {e e' : TypeId} {v c1 c2 c3 u : Value} {xs news : List Value} {w w' W : World} {b : Bl} {P : Program} {o : Oper} {a : Act} {K : Act → World → Prop} {Q : Exit → Act → World → Prop}
theorem L0.al (h : L0 MG e size n v xs w) (k : ∃ o, w' = w.alloc o) : L0 MG e size n v xs w' := by obtain ⟨o, rfl⟩ := k; exact h.alloc o
theorem L1.al (h : L1 N MG e size n v xs news u w) (k : ∃ o, w' = w.alloc o) : L1 N MG e size n v xs news u w' := by obtain ⟨o, rfl⟩ := k; exact h.alloc o
theorem L2.al (h : L2 N MG e size n xs news u w) (k : ∃ o, w' = w.alloc o) : L2 N MG e size n xs news u w' := by obtain ⟨o, rfl⟩ := k; exact h.alloc o
theorem L0.gr (h : L0 MG e size n v xs w) (k : Gro e' w w') (hne : e' ≠ e) : L0 MG e size n v xs w' := by obtain ⟨row, h1, h2⟩ := k; exact h.grown h1 h2 hne
theorem L1.gr (h : L1 N MG e size n v xs news u w) (k : Gro e' w w') (hne : e' ≠ e) : L1 N MG e size n v xs news u w' := by obtain ⟨row, h1, h2⟩ := k; exact h.grown h1 h2 hne
theorem L2.gr (h : L2 N MG e size n xs news u w) (k : Gro e' w w') (hne : e' ≠ e) : L2 N MG e size n xs news u w' := by obtain ⟨row, h1, h2⟩ := k; exact h.grown h1 h2 hne
theorem L0.buildK (h : L0 MG e size n v xs w) (R : R9 N MG W ga x c1 c2 c3 b w) (news : List Value) (t : TypeId) (y : Operand) (ho : o.op = .buildSlice t 1 #[(0, y)]) (ht : P.underlying t = some (.slice e)) (hx : (a.eval y).cells = news.toArray)
    (hi : InfoOf P e size bytes ∧ news.length = size) (hK : ∀ u w', (∃ o, w' = w.alloc o) → R9 N MG W ga x c1 c2 c3 b w' → L1 N MG e size n v xs news u w' → K (a.put o.dst u) w') : o.wp P a w K Q := by
  obtain ⟨⟨i, z, h1, h2, h3, h4, h5, h6, h7⟩, hl⟩ := hi
  exact wp_build1 t e y ho i z _ news.toArray rfl hx ht h1 h2 (by simp; omega) (by simp; omega) (by simp; omega) (by simp; omega) (hK _ _ ⟨_, rfl⟩ (R.alloc _) (h.build R.sz news))
theorem L1.appK (h : L1 N MG e size n v xs news u w) (R : R9 N MG W ga x c1 c2 c3 b w) (s y : Operand) (t : TypeId) (ho : o.op = .call { callee := .builtin .append, args := #[s, y], argTypes := #[t, t] }) (ht : P.underlying t = some (.slice e))
    (hs : a.eval s = v) (hy : a.eval y = u) (hne : e ≠ 42) (hi : InfoOf P e size bytes ∧ news.length = size ∧ (∀ u ∈ news, u.oneCell' = true) ∧ n + 1 ≤ maxLen ∧ (n + 1) * bytes ≤ 140737488355328)
    (hK : ∀ v' w', Gro e w w' → R9 N MG W ga x c1 c2 c3 b w' → L2 N MG e size n xs news v' w' → K (a.put o.dst v') w') : o.wp P a w K Q := by
  obtain ⟨⟨i, z, h1, h2, h3, h4, h5, h6, h7⟩, hl, k1, k2, k3⟩ := hi
  exact h.app s y t ho i z bytes ht h1 h2 h3 h4 h5 h6 hs hy hl k1 k2 k3 R.sz (fun v' w' g1 g2 => hK v' w' ⟨_, g2, h.l0.blk⟩ (R.grown h.l0 g2 hne) g1)
end
theorem L2.one {N n size : Nat} {MG : Nat → Prop} {e : TypeId} {xs news : List Value} {u : Value} {w : World} (h : L2 N MG e size n xs news u w) : u.oneCell' = true := by
  obtain ⟨A, c, rfl, _⟩ := row_form h.own
  rfl

end Go.Proofs.YtnlncfjibbdimaaDoor
