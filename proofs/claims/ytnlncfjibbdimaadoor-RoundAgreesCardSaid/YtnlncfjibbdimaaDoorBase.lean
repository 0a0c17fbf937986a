/-
  The words that all walks of this seat share: a frame with exceptions (Fr), a slice that reads as a list of cells (Rd), commands and ledgers in memory. No walk stands here.
-/
import Derived.Test.YtnlncfjibbdimaaDoorProg
import Derived.WalkKit
import Derived.WalkSpells
import Derived.Maps.AppendAt
import Derived.Deep.AppendLies
import Derived.Deep.Draws
import Derived.RegionTactic
import Derived.OwnWalk
import Derived.Below
import Derived.Lib.Hide
namespace Go.Proofs.YtnlncfjibbdimaaDoor
open Go.RowKit

theorem ret_bool {a b : Bool} (h : a = b) : Ending.returned (.bool a) = .returned (.bool b) := by rw [h]
theorem ret_int {k : IntKind} {a b : Int} (h : a = b) : Ending.returned (.int k a) = .returned (.int k b) := by rw [h]

theorem results_tmp4 {fn : Func} {t u v x : Tmp} (h : fn.results = #[.tmp t, .tmp u, .tmp v, .tmp x]) (tmps : Array Value) (P : Program) (w : World) :
    (results fn tmps).run P w = .ok (.tuple #[tmps.getD t undef, tmps.getD u undef, tmps.getD v undef, tmps.getD x undef]) w := by simp [results, h]

theorem block_of_add (a : Addr) (n : Nat) : (a.add n).block = a.block := by unfold Addr.add; split <;> rfl
theorem add_of_add (a : Addr) (i j : Nat) : (a.add i).add j = a.add (i + j) := by
  unfold Addr.add
  by_cases hi : i = 0 <;> by_cases hj : j = 0 <;> simp [hi, hj, Nat.add_assoc]

/-! ### The frame -/

/-- Below block number B the world w' is as w was, but for the blocks of S. -/
structure Fr (B : Nat) (S : Nat → Prop) (w w' : World) : Prop where
  os : w'.os = w.os
  tape : w'.tape = w.tape
  output : w'.output = w.output
  size : w.heap.size ≤ w'.heap.size
  block : ∀ k, k < B → ¬ S k → w'.heap[k]? = w.heap[k]?

section
variable {B B' : Nat} {S S' : Nat → Prop} {a b c w w' : World}
theorem Fr.refl (B : Nat) (S : Nat → Prop) (w : World) : Fr B S w w := ⟨rfl, rfl, rfl, Nat.le_refl _, fun _ _ _ => rfl⟩
theorem Fr.of_below (h : Below B w w') (S : Nat → Prop) : Fr B S w w' := ⟨h.os, h.tape, h.output, h.size, fun k hk _ => h.block k hk⟩
theorem Fr.below (h : Fr B S w w') (hs : ∀ k, k < B → ¬ S k) : Below B w w' := ⟨h.os, h.tape, h.output, h.size, fun k hk => h.block k hk (hs k hk)⟩
theorem Fr.trans (h : Fr B S a b) (k : Fr B S b c) : Fr B S a c :=
  ⟨k.os.trans h.os, k.tape.trans h.tape, k.output.trans h.output, Nat.le_trans h.size k.size, fun i hi hs => (k.block i hi hs).trans (h.block i hi hs)⟩
theorem Fr.mono (h : Fr B S w w') (hB : B' ≤ B) (hS : ∀ k, k < B' → S k → S' k) : Fr B' S' w w' :=
  ⟨h.os, h.tape, h.output, h.size, fun k hk hs => h.block k (by omega) (fun h' => hs (hS k hk h'))⟩
theorem Fr.step (h : Fr B S a b) (k : Fr B' S' b c) (hB : B ≤ B') (hS : ∀ k, k < B → S' k → S k) : Fr B S a c := h.trans (k.mono hB hS)
theorem Fr.alloc (h : Fr B S a w) (hB : B ≤ w.heap.size) (o : Obj) : Fr B S a (w.alloc o) := h.trans (.of_below ((Below.refl _ _).alloc hB o) _)
theorem Fr.drew (h : Fr B S a w) : Fr B S a w.drew := ⟨h.os, h.tape, h.output, h.size, h.block⟩
theorem Fr.setCell (h : Fr B S a w) {p : Addr} (hp : S p.block ∨ B ≤ p.block) (u : Value) : Fr B S a (w.setCell p u) :=
  h.trans ⟨rfl, rfl, rfl, by simp, fun k hk hs => Below.heap_setCell _ _ _ _ (by
    rintro rfl
    rcases hp with hp | hp
    · exact hs hp
    · omega)⟩
theorem Fr.grown (h : Fr B S a w) {row : Option Nat} (hg : w.grownBy w' row) (hB : B ≤ w.heap.size) (hr : ∀ k, row = some k → S k ∨ B ≤ k) : Fr B S a w' :=
  h.trans ⟨hg.os, hg.tape, hg.output, hg.size, fun k hk hs => hg.block k (by omega) (fun e => by
    rcases hr k e.symm with h1 | h1
    · exact hs h1
    · omega)⟩
theorem Fr.cell (h : Fr B S w w') {p : Addr} (hp : p.block < B) (hs : ¬ S p.block) : w'.cell? p = w.cell? p := World.cell?_of_block (w := w) (h.block p.block hp hs)
theorem Fr.frozen (h : Fr B S w w') {p : Addr} (hp : p.block < B) (hs : ¬ S p.block) : w'.frozen? p = w.frozen? p := World.frozen?_of_block (w := w) (h.block p.block hp hs)
end

/-- The world is put behind a letter: what is to be known of it is said here. -/
theorem wp_letter {P : Program} {c : Code} {Q : Exit → Act → World → Prop} {a : Act} {W : World} (R : World → Prop) (hR : R W) (h : ∀ W', R W' → c.wp P Q a W') : c.wp P Q a W := h W hR

/-! ### A block that is known whole -/

def Blk (w : World) (g : Nat) (t : TypeId) (cs : Array Value) : Prop := w.heap[g]? = some (.cells cs t (0, 0))

section
variable {w w' : World} {g : Nat} {t : TypeId} {cs : Array Value}
theorem Blk.lt (h : Blk w g t cs) : g < w.heap.size := by
  rcases Nat.lt_or_ge g w.heap.size with hlt | hge
  · exact hlt
  · unfold Blk at h; rw [Array.getElem?_eq_none hge] at h; cases h
theorem Blk.cell (h : Blk w g t cs) (i : Nat) : w.cell? ⟨g, i, none⟩ = cs[i]? := cell_of_row w g i cs t (0, 0) h
theorem Blk.frozen (h : Blk w g t cs) (i : Nat) : w.frozen? ⟨g, i, none⟩ = false := by
  unfold Blk at h
  simp [World.frozen?, h]
theorem Blk.new (w : World) (t : TypeId) (cs : Array Value) : Blk (w.alloc (.cells cs t)) w.heap.size t cs := heap_alloc_new w _
theorem Blk.new1 (w : World) (o : Obj) (t : TypeId) (cs : Array Value) : Blk ((w.alloc o).alloc (.cells cs t)) (w.heap.size + 1) t cs := by
  have := Blk.new (w.alloc o) t cs
  simpa using this
theorem Blk.drew (h : Blk w g t cs) : Blk w.drew g t cs := h
theorem Blk.drewN (h : Blk w g t cs) (n : Nat) : Blk (w.drewN n) g t cs := h
theorem Blk.alloc (h : Blk w g t cs) (o : Obj) : Blk (w.alloc o) g t cs := (Below.heap_alloc w o g h.lt).trans h
theorem Blk.set_ (h : Blk w g t cs) (i : Nat) (u : Value) : Blk (w.setCell ⟨g, i, none⟩ u) g t (cs.setIfInBounds i u) := by
  unfold Blk at h ⊢
  simp [World.setCell, Array.getElem?_modify, h]
theorem Blk.far (h : Blk w g t cs) {p : Addr} (hp : g ≠ p.block) (u : Value) : Blk (w.setCell p u) g t cs := (Below.heap_setCell w p u g hp).trans h
theorem Blk.below {B : Nat} (h : Blk w g t cs) (hb : Below B w w') (hg : g < B) : Blk w' g t cs := (hb.block g hg).trans h
theorem Blk.fr {B : Nat} {S : Nat → Prop} (h : Blk w g t cs) (hb : Fr B S w w') (hg : g < B) (hs : ¬ S g) : Blk w' g t cs := (hb.block g hg hs).trans h
theorem Blk.grown {row : Option Nat} (h : Blk w g t cs) (hb : w.grownBy w' row) (hg : some g ≠ row) : Blk w' g t cs := (hb.block g h.lt hg).trans h
end

/-! ### A slice that reads as a list of cells, from blocks lo to hi -/

def Rd (w : World) (lo hi size : Nat) (A : Option Addr) (n : Nat) (xs : List Value) : Prop :=
  xs.length = n * size ∧ (0 < n → ∃ ad, A = some ad ∧ lo ≤ ad.block ∧ ad.block < hi ∧ ∀ j u, xs[j]? = some u → w.cell? (ad.add j) = some u)

section
variable {w w' : World} {lo hi lo' hi' size n B : Nat} {S : Nat → Prop} {A : Option Addr} {xs : List Value}
theorem Rd.none_ : Rd w lo hi size A 0 [] := ⟨by simp, fun h => absurd h (by omega)⟩
theorem Rd.keep (h : Rd w lo hi size A n xs) (hk : ∀ p : Addr, lo ≤ p.block → p.block < hi → w'.cell? p = w.cell? p) : Rd w' lo hi size A n xs :=
  ⟨h.1, fun hn => by
    obtain ⟨ad, e, hb, hb', hc⟩ := h.2 hn
    exact ⟨ad, e, hb, hb', fun j u hu => (hk _ (by rw [block_of_add]; exact hb) (by rw [block_of_add]; exact hb')).trans (hc j u hu)⟩⟩
theorem Rd.fr (h : Rd w lo hi size A n xs) (f : Fr B S w w') (hB : hi ≤ B) (hS : ∀ k, lo ≤ k → k < hi → ¬ S k) : Rd w' lo hi size A n xs :=
  h.keep fun p h1 h2 => f.cell (by omega) (hS _ h1 h2)
theorem Rd.wider (h : Rd w lo hi size A n xs) (hl : lo' ≤ lo) (hh : hi ≤ hi') : Rd w lo' hi' size A n xs :=
  ⟨h.1, fun hn => by
    obtain ⟨ad, e, hb, hb', hc⟩ := h.2 hn
    exact ⟨ad, e, by omega, by omega, hc⟩⟩
end

/-- What a row of the call's own reads as. -/
theorem Rd.of_own {w : World} {lo hi size n c : Nat} {e : TypeId} {A : Option Addr} {xs : List Value} (h : w.ownsRow lo e size (.slice A n c) n xs) (hhi : ∀ g, (Value.slice A n c).ownBlock = some g → g < hi) :
    Rd w lo hi size A n xs := by
  refine ⟨h.1, fun hn => ?_⟩
  rcases h.2 with ⟨_, h0⟩ | ⟨g, cap, cur, hv, hb, hh, _⟩
  · omega
  · have hA : A = some ⟨g, 0, none⟩ := by injection hv
    subst hA
    exact ⟨_, rfl, hb, hhi g rfl, h.cells (g := g) rfl⟩

/-! ### Append onto a row of the call's own -/

section
variable {P : Program} (w : World)

theorem run_append_of_nil (base : Nat) (t ty e : TypeId) (i : TypeInfo) (size : Nat) (ht : P.underlying t = some (.slice e)) (hi : P.info? e = some i)
    (v : Value) (n : Nat) (xs : List Value) (hown : w.ownsRow base e size v n xs) (c : Nat) : (Builtin.append_ #[t, t] ty #[v, .slice none 0 c]).run P w = .ok v w := by
  rcases hown.2 with ⟨rfl, rfl⟩ | ⟨g, cap, cur, rfl, _, _, hnc, _⟩
  · simp [Builtin.append_, run_underlying ht, sizeOf, typeInfo, hi, Builtin.lenOf, Builtin.firstCells]
  · simp [Builtin.append_, run_underlying ht, sizeOf, typeInfo, hi, Builtin.lenOf, Builtin.firstCells, hnc, storeCells]

theorem run_append_any (base : Nat) (t ty e : TypeId) (i : TypeInfo) (z : Value) (size bytes : Nat) (ht : P.underlying t = some (.slice e)) (hi : P.info? e = some i) (hz : i.zero = some z)
    (hsize : i.size = size) (hby : i.bytes = bytes) (hzs : z.cells.size = size) (hsz : 0 < size)
    (v : Value) (n : Nat) (xs : List Value) (hown : w.ownsRow base e size v n xs)
    (lo hi' : Nat) (A : Option Addr) (m c : Nat) (news : List Value) (hr : Rd w lo hi' size A m news) (h1 : ∀ u ∈ news, u.oneCell' = true)
    (h63 : n + m ≤ maxLen) (hbytes : (n + m) * bytes ≤ 140737488355328) (hbase : base ≤ w.heap.size) :
    ∃ v' w', (Builtin.append_ #[t, t] ty #[v, .slice A m c]).run P w = .ok v' w' ∧ w'.ownsRow base e size v' (n + m) (xs ++ news) ∧ w.grownBy w' v.ownBlock ∧
      (v'.ownBlock = v.ownBlock ∨ v'.ownBlock = some w.heap.size) := by
  rcases A with _ | ad
  · have hm : m = 0 := by
      rcases Nat.eq_zero_or_pos m with h0 | h0
      · exact h0
      · obtain ⟨ad, h, _⟩ := hr.2 h0
        cases h
    subst hm
    have hn : news = [] := List.eq_nil_of_length_eq_zero (by simpa using hr.1)
    subst hn
    exact ⟨v, w, run_append_of_nil w base t ty e i size ht hi v n xs hown c, by simpa using hown, World.grownBy.refl w _, .inl rfl⟩
  · have hcells : ∀ j u, news[j]? = some u → w.cell? (ad.add j) = some u := by
      intro j u hu
      rcases Nat.eq_zero_or_pos m with h0 | h0
      · subst h0
        have hn : news = [] := List.eq_nil_of_length_eq_zero (by simpa using hr.1)
        subst hn
        simp at hu
      · obtain ⟨ad', h, _, _, hc⟩ := hr.2 h0
        injection h with h
        subst h
        exact hc j u hu
    obtain ⟨v', w', hrun, h2, h3, _, h5⟩ := run_append_own_at (P := P) w base t ty e i z size bytes ht hi hz hsize hby hzs hsz v n xs hown ad m c news hr.1 hcells h1 h63 hbytes hbase
    exact ⟨v', w', hrun, h2, h3, h5⟩

theorem wp_append_any {o : Oper} {a : Act} {K : Act → World → Prop} {Q : Exit → Act → World → Prop} (s x : Operand) (t : TypeId)
    (ho : o.op = .call { callee := .builtin .append, args := #[s, x], argTypes := #[t, t] })
    (base : Nat) (e : TypeId) (i : TypeInfo) (z : Value) (size bytes : Nat) (ht : P.underlying t = some (.slice e)) (hi : P.info? e = some i) (hz : i.zero = some z)
    (hsize : i.size = size) (hby : i.bytes = bytes) (hzs : z.cells.size = size) (hsz : 0 < size)
    (v : Value) (n : Nat) (xs : List Value) (hs : a.eval s = v) (hown : w.ownsRow base e size v n xs)
    (lo hi' : Nat) (A : Option Addr) (m c : Nat) (news : List Value) (hx : a.eval x = .slice A m c) (hr : Rd w lo hi' size A m news) (h1 : ∀ u ∈ news, u.oneCell' = true)
    (h63 : n + m ≤ maxLen) (hbytes : (n + m) * bytes ≤ 140737488355328) (hbase : base ≤ w.heap.size)
    (h : ∀ v' w', w'.ownsRow base e size v' (n + m) (xs ++ news) → w.grownBy w' v.ownBlock → (v'.ownBlock = v.ownBlock ∨ v'.ownBlock = some w.heap.size) → K (a.put o.dst v') w') : o.wp P a w K Q := by
  obtain ⟨v', w', hrun, h2, h3, h4⟩ := run_append_any (P := P) w base t o.type e i z size bytes ht hi hz hsize hby hzs hsz v n xs hown lo hi' A m c news hr h1 h63 hbytes hbase
  unfold Oper.wp execOp
  simp only [ho, resolve, invoke, builtin, Sem.run_bind, Sem.run_pure, Result.andThen_ok, List.map_toArray, List.map_cons, List.map_nil, hs, hx, hrun]
  exact h v' w' h2 h3 h4

theorem wpList_append_any {ops : Array Oper} {rest : List Oper} {o : Oper} {a : Act} {Q : Exit → Act → World → Prop} (hgd : o.guard = none) (s x : Operand) (t : TypeId)
    (ho : o.op = .call { callee := .builtin .append, args := #[s, x], argTypes := #[t, t] })
    (base : Nat) (e : TypeId) (i : TypeInfo) (z : Value) (size bytes : Nat) (ht : P.underlying t = some (.slice e)) (hi : P.info? e = some i) (hz : i.zero = some z)
    (hsize : i.size = size) (hby : i.bytes = bytes) (hzs : z.cells.size = size) (hsz : 0 < size)
    (v : Value) (n : Nat) (xs : List Value) (hs : a.eval s = v) (hown : w.ownsRow base e size v n xs)
    (lo hi' : Nat) (A : Option Addr) (m c : Nat) (news : List Value) (hx : a.eval x = .slice A m c) (hr : Rd w lo hi' size A m news) (h1 : ∀ u ∈ news, u.oneCell' = true)
    (h63 : n + m ≤ maxLen) (hbytes : (n + m) * bytes ≤ 140737488355328) (hbase : base ≤ w.heap.size)
    (h : ∀ v' w', w'.ownsRow base e size v' (n + m) (xs ++ news) → w.grownBy w' v.ownBlock → (v'.ownBlock = v.ownBlock ∨ v'.ownBlock = some w.heap.size) → wpList P ops Q rest (a.put o.dst v') w') : wpList P ops Q (o :: rest) a w :=
  wpList_plain hgd fun _ hK => wp_append_any w s x t ho base e i z size bytes ht hi hz hsize hby hzs hsz v n xs hs hown lo hi' A m c news hx hr h1 h63 hbytes hbase fun v' w' h2 h3 h4 => hK _ _ (h v' w' h2 h3 h4)
end

/-! ### Commands and ledgers -/

structure Cmd where
  kind : Int
  idn : Int
  idb : Int
  ids : Int
  bucket : ByteArray
  key : ByteArray
  upn : Int
  upb : Int
  ups : Int
  pbn : Int
  pbb : Int
  pbs : Int
  psize : Int
  etag : ByteArray
  part : Int
  parts : List Int
  time : Int
  days : Int

/-- A command's eighteen cells; pv: the slice of its parts. -/
def Cmd.cells (c : Cmd) (pv : Value) : List Value :=
  [.int .i64 c.kind, .int .i64 c.idn, .int .i64 c.idb, .int .i64 c.ids, .string c.bucket, .string c.key, .int .i64 c.upn, .int .i64 c.upb, .int .i64 c.ups, .int .i64 c.pbn, .int .i64 c.pbb, .int .i64 c.pbs,
    .int .i64 c.psize, .string c.etag, .int .i64 c.part, pv, .int .i64 c.time, .int .i64 c.days]
theorem Cmd.cells_length (c : Cmd) (pv : Value) : (c.cells pv).length = 18 := rfl

def ints (xs : List Int) : List Value := xs.map (Value.int .i64)

def IntsAt (w : World) (lo hi : Nat) (v : Value) (xs : List Int) : Prop :=
  ∃ A c, v = .slice A xs.length c ∧ xs.length ≤ c ∧ c ≤ maxLen ∧ xs.length * 8 ≤ 140737488355328 ∧ Rd w lo hi 1 A xs.length (ints xs)
def CmdAt (w : World) (lo hi : Nat) (cs : List Value) (c : Cmd) : Prop := ∃ pv, cs = c.cells pv ∧ IntsAt w lo hi pv c.parts
/-- The rows of cells of a list of commands. -/
def RowsAt (w : World) (lo hi : Nat) (rows : List (List Value)) (l : List Cmd) : Prop :=
  rows.length = l.length ∧ ∀ (i : Nat) (r : List Value) (c : Cmd), rows[i]? = some r → l[i]? = some c → CmdAt w lo hi r c
def LedAt (w : World) (lo hi : Nat) (v : Value) (l : List Cmd) : Prop :=
  ∃ A c rows, v = .slice A l.length c ∧ l.length ≤ c ∧ c ≤ maxLen ∧ l.length * 184 ≤ 140737488355328 ∧ Rd w lo hi 18 A l.length rows.flatten ∧ RowsAt w lo hi rows l

/-- .. of the call's own memory: whole blocks, from lo to hi, not frozen. -/
def OwnRow (w : World) (lo hi : Nat) (e : TypeId) (size : Nat) (v : Value) (n : Nat) (xs : List Value) : Prop :=
  w.ownsRow lo e size v n xs ∧ ∀ g, v.ownBlock = some g → g < hi
def OwnInts (w : World) (lo hi : Nat) (v : Value) (xs : List Int) : Prop := OwnRow w lo hi 3 1 v xs.length (ints xs) ∧ xs.length * 8 ≤ 140737488355328
def OwnCmd (w : World) (lo hi : Nat) (cs : List Value) (c : Cmd) : Prop := ∃ pv, cs = c.cells pv ∧ OwnInts w lo hi pv c.parts
def OwnRows (w : World) (lo hi : Nat) (rows : List (List Value)) (l : List Cmd) : Prop :=
  rows.length = l.length ∧ ∀ (i : Nat) (r : List Value) (c : Cmd), rows[i]? = some r → l[i]? = some c → OwnCmd w lo hi r c
def OwnLed (w : World) (lo hi : Nat) (v : Value) (l : List Cmd) : Prop :=
  ∃ rows, OwnRow w lo hi 81 18 v l.length rows.flatten ∧ l.length * 184 ≤ 140737488355328 ∧ OwnRows w lo hi rows l

section
variable {w w' : World} {lo hi lo' hi' B size n : Nat} {S : Nat → Prop} {e : TypeId} {v : Value} {xs : List Value}

theorem IntsAt.fr {ys : List Int} (h : IntsAt w lo hi v ys) (f : Fr B S w w') (hB : hi ≤ B) (hS : ∀ k, lo ≤ k → k < hi → ¬ S k) : IntsAt w' lo hi v ys := by
  obtain ⟨A, c, h1, h2, h3, h4, h5⟩ := h
  exact ⟨A, c, h1, h2, h3, h4, h5.fr f hB hS⟩
theorem IntsAt.wider {ys : List Int} (h : IntsAt w lo hi v ys) (hl : lo' ≤ lo) (hh : hi ≤ hi') : IntsAt w lo' hi' v ys := by
  obtain ⟨A, c, h1, h2, h3, h4, h5⟩ := h
  exact ⟨A, c, h1, h2, h3, h4, h5.wider hl hh⟩
theorem CmdAt.fr {cs : List Value} {c : Cmd} (h : CmdAt w lo hi cs c) (f : Fr B S w w') (hB : hi ≤ B) (hS : ∀ k, lo ≤ k → k < hi → ¬ S k) : CmdAt w' lo hi cs c := by
  obtain ⟨pv, h1, h2⟩ := h
  exact ⟨pv, h1, h2.fr f hB hS⟩
theorem RowsAt.fr {rows : List (List Value)} {l : List Cmd} (h : RowsAt w lo hi rows l) (f : Fr B S w w') (hB : hi ≤ B) (hS : ∀ k, lo ≤ k → k < hi → ¬ S k) : RowsAt w' lo hi rows l :=
  ⟨h.1, fun i r c h1 h2 => (h.2 i r c h1 h2).fr f hB hS⟩
theorem LedAt.fr {l : List Cmd} (h : LedAt w lo hi v l) (f : Fr B S w w') (hB : hi ≤ B) (hS : ∀ k, lo ≤ k → k < hi → ¬ S k) : LedAt w' lo hi v l := by
  obtain ⟨A, c, rows, h1, h2, h3, h4, h5, h6⟩ := h
  exact ⟨A, c, rows, h1, h2, h3, h4, h5.fr f hB hS, h6.fr f hB hS⟩
theorem LedAt.wider {l : List Cmd} (h : LedAt w lo hi v l) (hl : lo' ≤ lo) (hh : hi ≤ hi') : LedAt w lo' hi' v l := by
  obtain ⟨A, c, rows, h1, h2, h3, h4, h5, h6⟩ := h
  exact ⟨A, c, rows, h1, h2, h3, h4, h5.wider hl hh, h6.1, fun i r c g1 g2 => by
    obtain ⟨pv, e1, e2⟩ := h6.2 i r c g1 g2
    exact ⟨pv, e1, e2.wider hl hh⟩⟩

theorem OwnRow.fr (h : OwnRow w lo hi e size v n xs) (f : Fr B S w w') (hB : hi ≤ B) (hS : ∀ k, lo ≤ k → k < hi → ¬ S k) : OwnRow w' lo hi e size v n xs := by
  refine ⟨⟨h.1.1, ?_⟩, h.2⟩
  rcases h.1.2 with h2 | ⟨g, cap, cur, rfl, hb, hh, hr⟩
  · exact .inl h2
  · have hg := h.2 g rfl
    exact .inr ⟨g, cap, cur, rfl, hb, (f.block g (by omega) (hS g hb hg)).trans hh, hr⟩
theorem OwnRow.wider (h : OwnRow w lo hi e size v n xs) (hl : lo' ≤ lo) (hh : hi ≤ hi') : OwnRow w lo' hi' e size v n xs := by
  refine ⟨⟨h.1.1, ?_⟩, fun g hg => by have := h.2 g hg; omega⟩
  rcases h.1.2 with h2 | ⟨g, cap, cur, rfl, hb, hr⟩
  · exact .inl h2
  · exact .inr ⟨g, cap, cur, rfl, by omega, hr⟩
theorem OwnInts.fr {ys : List Int} (h : OwnInts w lo hi v ys) (f : Fr B S w w') (hB : hi ≤ B) (hS : ∀ k, lo ≤ k → k < hi → ¬ S k) : OwnInts w' lo hi v ys := ⟨h.1.fr f hB hS, h.2⟩
theorem OwnInts.wider {ys : List Int} (h : OwnInts w lo hi v ys) (hl : lo' ≤ lo) (hh : hi ≤ hi') : OwnInts w lo' hi' v ys := ⟨h.1.wider hl hh, h.2⟩
theorem OwnCmd.fr {cs : List Value} {c : Cmd} (h : OwnCmd w lo hi cs c) (f : Fr B S w w') (hB : hi ≤ B) (hS : ∀ k, lo ≤ k → k < hi → ¬ S k) : OwnCmd w' lo hi cs c := by
  obtain ⟨pv, h1, h2⟩ := h
  exact ⟨pv, h1, h2.fr f hB hS⟩
theorem OwnCmd.wider {cs : List Value} {c : Cmd} (h : OwnCmd w lo hi cs c) (hl : lo' ≤ lo) (hh : hi ≤ hi') : OwnCmd w lo' hi' cs c := by
  obtain ⟨pv, h1, h2⟩ := h
  exact ⟨pv, h1, h2.wider hl hh⟩
theorem OwnRows.fr {rows : List (List Value)} {l : List Cmd} (h : OwnRows w lo hi rows l) (f : Fr B S w w') (hB : hi ≤ B) (hS : ∀ k, lo ≤ k → k < hi → ¬ S k) : OwnRows w' lo hi rows l :=
  ⟨h.1, fun i r c h1 h2 => (h.2 i r c h1 h2).fr f hB hS⟩
theorem OwnRows.wider {rows : List (List Value)} {l : List Cmd} (h : OwnRows w lo hi rows l) (hl : lo' ≤ lo) (hh : hi ≤ hi') : OwnRows w lo' hi' rows l :=
  ⟨h.1, fun i r c h1 h2 => (h.2 i r c h1 h2).wider hl hh⟩
theorem OwnLed.fr {l : List Cmd} (h : OwnLed w lo hi v l) (f : Fr B S w w') (hB : hi ≤ B) (hS : ∀ k, lo ≤ k → k < hi → ¬ S k) : OwnLed w' lo hi v l := by
  obtain ⟨rows, h1, h2, h3⟩ := h
  exact ⟨rows, h1.fr f hB hS, h2, h3.fr f hB hS⟩
theorem OwnLed.wider {l : List Cmd} (h : OwnLed w lo hi v l) (hl : lo' ≤ lo) (hh : hi ≤ hi') : OwnLed w lo' hi' v l := by
  obtain ⟨rows, h1, h2, h3⟩ := h
  exact ⟨rows, h1.wider hl hh, h2, h3.wider hl hh⟩
theorem OwnLed.nil_ (w : World) (lo hi : Nat) : OwnLed w lo hi (.slice none 0 0) [] :=
  ⟨[], ⟨World.ownsRow_nil _ _ _ _, fun g hg => by simp [Value.ownBlock] at hg⟩, by simp, rfl, fun i r c h _ => by simp at h⟩

/-- What is owned is a slice whose length is within its capacity. -/
theorem OwnRow.form (h : OwnRow w lo hi e size v n xs) : ∃ A c, v = .slice A n c ∧ n ≤ c ∧ c ≤ maxLen ∧ (A = none → n = 0 ∧ c = 0) := by
  rcases h.1.2 with ⟨rfl, rfl⟩ | ⟨g, cap, cur, rfl, _, _, h1, h2, _⟩
  · exact ⟨none, 0, rfl, Nat.le_refl _, by simp [maxLen], fun _ => ⟨rfl, rfl⟩⟩
  · exact ⟨_, _, rfl, h1, h2, fun h => by cases h⟩
theorem OwnInts.at_ {ys : List Int} (h : OwnInts w lo hi v ys) : IntsAt w lo hi v ys := by
  obtain ⟨A, c, rfl, h1, h2, _⟩ := h.1.form
  exact ⟨A, c, rfl, h1, h2, h.2, Rd.of_own h.1.1 h.1.2⟩
theorem OwnCmd.at_ {cs : List Value} {c : Cmd} (h : OwnCmd w lo hi cs c) : CmdAt w lo hi cs c := by
  obtain ⟨pv, h1, h2⟩ := h
  exact ⟨pv, h1, h2.at_⟩
theorem OwnLed.at_ {l : List Cmd} (h : OwnLed w lo hi v l) : LedAt w lo hi v l := by
  obtain ⟨rows, h1, h2, h3⟩ := h
  obtain ⟨A, c, rfl, g1, g2, _⟩ := h1.form
  exact ⟨A, c, rows, rfl, g1, g2, h2, Rd.of_own h1.1 h1.2, h3.1, fun i r c e1 e2 => (h3.2 i r c e1 e2).at_⟩
end

theorem ints_getElem? (xs : List Int) (i : Nat) : (ints xs)[i]? = (xs[i]?).map (Value.int .i64) := by simp [ints]
theorem ints_length (xs : List Int) : (ints xs).length = xs.length := by simp [ints]
theorem ints_oneCell (xs : List Int) : ∀ u ∈ ints xs, u.oneCell' = true := by
  intro u hu
  simp only [ints, List.mem_map] at hu
  obtain ⟨x, _, rfl⟩ := hu
  rfl

/-- The cells of row i, in the rows laid one behind the other. -/
theorem flatten_get (rows : List (List Value)) (hl : ∀ r ∈ rows, r.length = 18) (i j : Nat) (r : List Value) (hr : rows[i]? = some r) (hj : j < 18) : rows.flatten[i * 18 + j]? = r[j]? := by
  induction rows generalizing i with
  | nil => simp at hr
  | cons r0 rows ih =>
    have h0 : r0.length = 18 := hl r0 (by simp)
    cases i with
    | zero =>
      simp at hr
      subst hr
      simp only [List.flatten_cons, Nat.zero_mul, Nat.zero_add]
      rw [List.getElem?_append_left (by omega)]
    | succ i =>
      simp at hr
      have := ih (fun r h => hl r (by simp [h])) i hr
      simp only [List.flatten_cons]
      rw [List.getElem?_append_right (by omega), ← this]
      congr 1
      omega

theorem RowsAt.len18 {w : World} {lo hi : Nat} {rows : List (List Value)} {l : List Cmd} (h : RowsAt w lo hi rows l) : ∀ r ∈ rows, r.length = 18 := by
  intro r hr
  obtain ⟨i, hi', rfl⟩ := List.getElem_of_mem hr
  have hl : i < l.length := by have := h.1; omega
  obtain ⟨pv, e, _⟩ := h.2 i rows[i] l[i] (List.getElem?_eq_getElem hi') (List.getElem?_eq_getElem hl)
  rw [e]; rfl

/-- Element i of a ledger: its cells, one by one, and what they are. -/
theorem LedAt.elem {w : World} {lo hi : Nat} {v : Value} {l : List Cmd} (h : LedAt w lo hi v l) {i : Nat} {c : Cmd} (hc : l[i]? = some c) :
    ∃ ad cap pv, v = .slice (some ad) l.length cap ∧ lo ≤ ad.block ∧ ad.block < hi ∧ (∀ j, j < 18 → w.cell? (ad.add (i * 18 + j)) = (c.cells pv)[j]?) ∧ IntsAt w lo hi pv c.parts := by
  obtain ⟨A, cap, rows, rfl, _, _, _, hr, hrows⟩ := h
  obtain ⟨hi', he⟩ := List.getElem?_eq_some_iff.1 hc
  obtain ⟨ad, rfl, h1, h2, h3⟩ := hr.2 (by omega)
  have hlen := hrows.1
  have hri : rows[i]? = some rows[i] := List.getElem?_eq_getElem (by omega)
  obtain ⟨pv, e1, e2⟩ := hrows.2 i _ c hri hc
  refine ⟨ad, cap, pv, rfl, h1, h2, fun j hj => ?_, e2⟩
  have hf := flatten_get rows hrows.len18 i j _ hri hj
  have hj' : j < (c.cells pv).length := by rw [Cmd.cells_length]; exact hj
  rw [e1, List.getElem?_eq_getElem hj'] at hf
  rw [h3 _ _ hf, List.getElem?_eq_getElem hj']
theorem LedAt.form {w : World} {lo hi : Nat} {v : Value} {l : List Cmd} (h : LedAt w lo hi v l) : ∃ A c, v = .slice A l.length c ∧ l.length ≤ c ∧ c ≤ maxLen ∧ l.length * 184 ≤ 140737488355328 := by
  obtain ⟨A, c, rows, h1, h2, h3, h4, _⟩ := h
  exact ⟨A, c, h1, h2, h3, h4⟩

end Go.Proofs.YtnlncfjibbdimaaDoor
