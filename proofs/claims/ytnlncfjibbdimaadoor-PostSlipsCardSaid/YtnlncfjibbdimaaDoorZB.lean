/-
  The words that all walks of this seat share: a frame with exceptions (Fr), a slice that reads as a list of cells (Rd), commands and ledgers in memory. No walk stands here.
  The walks of package ballot: Above, Half, legal, New, promise; and the document's Above, Legal.
  Sentinel errors: what the listed variables hold when the call begins; comparing two of them.
  A cheap test that a drawn region may be walked in the text's order: for large regions.
  Comparing two ids, two pieces: one equation each.
  Laws at one operation, each stated over the operation as it is written, so that an offer at another operation fails at once.
  A region whose operations stand in one order, only read and call functions that leave what was there: walked quietly.
-/
import Derived.Test.YtnlncfjibbdimaaDoorProg
import Derived.WalkKit
import Derived.WalkSpells
import Derived.Maps.AppendAt
import Derived.Deep.AppendLies
import Derived.Deep.Draws
import Derived.RegionTactic
import Derived.OwnWalk
import Derived.Below
import Derived.Lib.Hide
import Derived.Deep.QuietTactic
import Derived.BigQuiet
import Derived.Deep.RegionHeld3
import Derived.LaidEql
import Derived.Lib.QuietBelow
import Derived.Deep.MidRow
namespace Go.Proofs.YtnlncfjibbdimaaDoor
open Go.RowKit
theorem ret_bool {a b : Bool} (h : a = b) : Ending.returned (.bool a) = .returned (.bool b) := by rw [h]
theorem block_of_add (a : Addr) (n : Nat) : (a.add n).block = a.block := by unfold Addr.add; split <;> rfl
theorem add_of_add (a : Addr) (i j : Nat) : (a.add i).add j = a.add (i + j) := by
  unfold Addr.add
  by_cases hi : i = 0 <;> by_cases hj : j = 0 <;> simp [hi, hj, Nat.add_assoc]
/-! ### The frame -/

/-- Below block number B the world w' is as w was, but for the blocks of S. -/
structure Fr (B : Nat) (S : Nat → Prop) (w w' : World) : Prop where
  os : w'.os = w.os
  tape : w'.tape = w.tape
  output : w'.output = w.output
  size : w.heap.size ≤ w'.heap.size
  block : ∀ k, k < B → ¬ S k → w'.heap[k]? = w.heap[k]?
section
variable {B B' : Nat} {S S' : Nat → Prop} {a b c w w' : World}
theorem Fr.refl (B : Nat) (S : Nat → Prop) (w : World) : Fr B S w w := ⟨rfl, rfl, rfl, Nat.le_refl _, fun _ _ _ => rfl⟩
theorem Fr.of_below (h : Below B w w') (S : Nat → Prop) : Fr B S w w' := ⟨h.os, h.tape, h.output, h.size, fun k hk _ => h.block k hk⟩
theorem Fr.below (h : Fr B S w w') (hs : ∀ k, k < B → ¬ S k) : Below B w w' := ⟨h.os, h.tape, h.output, h.size, fun k hk => h.block k hk (hs k hk)⟩
theorem Fr.trans (h : Fr B S a b) (k : Fr B S b c) : Fr B S a c :=
  ⟨k.os.trans h.os, k.tape.trans h.tape, k.output.trans h.output, Nat.le_trans h.size k.size, fun i hi hs => (k.block i hi hs).trans (h.block i hi hs)⟩
theorem Fr.mono (h : Fr B S w w') (hB : B' ≤ B) (hS : ∀ k, k < B' → S k → S' k) : Fr B' S' w w' :=
  ⟨h.os, h.tape, h.output, h.size, fun k hk hs => h.block k (by omega) (fun h' => hs (hS k hk h'))⟩
theorem Fr.step (h : Fr B S a b) (k : Fr B' S' b c) (hB : B ≤ B') (hS : ∀ k, k < B → S' k → S k) : Fr B S a c := h.trans (k.mono hB hS)
theorem Fr.alloc (h : Fr B S a w) (hB : B ≤ w.heap.size) (o : Obj) : Fr B S a (w.alloc o) := h.trans (.of_below ((Below.refl _ _).alloc hB o) _)
theorem Fr.setCell (h : Fr B S a w) {p : Addr} (hp : S p.block ∨ B ≤ p.block) (u : Value) : Fr B S a (w.setCell p u) :=
  h.trans ⟨rfl, rfl, rfl, by simp, fun k hk hs => Below.heap_setCell _ _ _ _ (by
    rintro rfl
    rcases hp with hp | hp
    · exact hs hp
    · omega)⟩
theorem Fr.grown (h : Fr B S a w) {row : Option Nat} (hg : w.grownBy w' row) (hB : B ≤ w.heap.size) (hr : ∀ k, row = some k → S k ∨ B ≤ k) : Fr B S a w' :=
  h.trans ⟨hg.os, hg.tape, hg.output, hg.size, fun k hk hs => hg.block k (by omega) (fun e => by
    rcases hr k e.symm with h1 | h1
    · exact hs h1
    · omega)⟩
theorem Fr.cell (h : Fr B S w w') {p : Addr} (hp : p.block < B) (hs : ¬ S p.block) : w'.cell? p = w.cell? p := World.cell?_of_block (w := w) (h.block p.block hp hs)
end
/-- The world is put behind a letter: what is to be known of it is said here. -/
theorem wp_letter {P : Program} {c : Code} {Q : Exit → Act → World → Prop} {a : Act} {W : World} (R : World → Prop) (hR : R W) (h : ∀ W', R W' → c.wp P Q a W') : c.wp P Q a W := h W hR
/-! ### A block that is known whole -/

def Blk (w : World) (g : Nat) (t : TypeId) (cs : Array Value) : Prop := w.heap[g]? = some (.cells cs t (0, 0))
section
variable {w w' : World} {g : Nat} {t : TypeId} {cs : Array Value}
theorem Blk.lt (h : Blk w g t cs) : g < w.heap.size := by
  rcases Nat.lt_or_ge g w.heap.size with hlt | hge
  · exact hlt
  · unfold Blk at h; rw [Array.getElem?_eq_none hge] at h; cases h
theorem Blk.cell (h : Blk w g t cs) (i : Nat) : w.cell? ⟨g, i, none⟩ = cs[i]? := cell_of_row w g i cs t (0, 0) h
theorem Blk.frozen (h : Blk w g t cs) (i : Nat) : w.frozen? ⟨g, i, none⟩ = false := by
  unfold Blk at h
  simp [World.frozen?, h]
theorem Blk.new (w : World) (t : TypeId) (cs : Array Value) : Blk (w.alloc (.cells cs t)) w.heap.size t cs := heap_alloc_new w _
theorem Blk.new1 (w : World) (o : Obj) (t : TypeId) (cs : Array Value) : Blk ((w.alloc o).alloc (.cells cs t)) (w.heap.size + 1) t cs := by
  have := Blk.new (w.alloc o) t cs
  simpa using this
theorem Blk.drew (h : Blk w g t cs) : Blk w.drew g t cs := h
theorem Blk.alloc (h : Blk w g t cs) (o : Obj) : Blk (w.alloc o) g t cs := (Below.heap_alloc w o g h.lt).trans h
theorem Blk.set_ (h : Blk w g t cs) (i : Nat) (u : Value) : Blk (w.setCell ⟨g, i, none⟩ u) g t (cs.setIfInBounds i u) := by
  unfold Blk at h ⊢
  simp [World.setCell, Array.getElem?_modify, h]
theorem Blk.far (h : Blk w g t cs) {p : Addr} (hp : g ≠ p.block) (u : Value) : Blk (w.setCell p u) g t cs := (Below.heap_setCell w p u g hp).trans h
theorem Blk.below {B : Nat} (h : Blk w g t cs) (hb : Below B w w') (hg : g < B) : Blk w' g t cs := (hb.block g hg).trans h
theorem Blk.fr {B : Nat} {S : Nat → Prop} (h : Blk w g t cs) (hb : Fr B S w w') (hg : g < B) (hs : ¬ S g) : Blk w' g t cs := (hb.block g hg hs).trans h
theorem Blk.grown {row : Option Nat} (h : Blk w g t cs) (hb : w.grownBy w' row) (hg : some g ≠ row) : Blk w' g t cs := (hb.block g h.lt hg).trans h
end
/-! ### A slice that reads as a list of cells, from blocks lo to hi -/

def Rd (w : World) (lo hi size : Nat) (A : Option Addr) (n : Nat) (xs : List Value) : Prop :=
  xs.length = n * size ∧ (0 < n → ∃ ad, A = some ad ∧ lo ≤ ad.block ∧ ad.block < hi ∧ ∀ j u, xs[j]? = some u → w.cell? (ad.add j) = some u)
section
variable {w w' : World} {lo hi lo' hi' size n B : Nat} {S : Nat → Prop} {A : Option Addr} {xs : List Value}
theorem Rd.none_ : Rd w lo hi size A 0 [] := ⟨by simp, fun h => absurd h (by omega)⟩
theorem Rd.keep (h : Rd w lo hi size A n xs) (hk : ∀ p : Addr, lo ≤ p.block → p.block < hi → w'.cell? p = w.cell? p) : Rd w' lo hi size A n xs :=
  ⟨h.1, fun hn => by
    obtain ⟨ad, e, hb, hb', hc⟩ := h.2 hn
    exact ⟨ad, e, hb, hb', fun j u hu => (hk _ (by rw [block_of_add]; exact hb) (by rw [block_of_add]; exact hb')).trans (hc j u hu)⟩⟩
theorem Rd.fr (h : Rd w lo hi size A n xs) (f : Fr B S w w') (hB : hi ≤ B) (hS : ∀ k, lo ≤ k → k < hi → ¬ S k) : Rd w' lo hi size A n xs :=
  h.keep fun p h1 h2 => f.cell (by omega) (hS _ h1 h2)
theorem Rd.wider (h : Rd w lo hi size A n xs) (hl : lo' ≤ lo) (hh : hi ≤ hi') : Rd w lo' hi' size A n xs :=
  ⟨h.1, fun hn => by
    obtain ⟨ad, e, hb, hb', hc⟩ := h.2 hn
    exact ⟨ad, e, by omega, by omega, hc⟩⟩
end
/-- What a row of the call's own reads as. -/
theorem Rd.of_own {w : World} {lo hi size n c : Nat} {e : TypeId} {A : Option Addr} {xs : List Value} (h : w.ownsRow lo e size (.slice A n c) n xs) (hhi : ∀ g, (Value.slice A n c).ownBlock = some g → g < hi) :
    Rd w lo hi size A n xs := by
  refine ⟨h.1, fun hn => ?_⟩
  rcases h.2 with ⟨_, h0⟩ | ⟨g, cap, cur, hv, hb, hh, _⟩
  · omega
  · have hA : A = some ⟨g, 0, none⟩ := by injection hv
    subst hA
    exact ⟨_, rfl, hb, hhi g rfl, h.cells (g := g) rfl⟩
/-! ### Append onto a row of the call's own -/

section
variable {P : Program} (w : World)
theorem run_append_of_nil (base : Nat) (t ty e : TypeId) (i : TypeInfo) (size : Nat) (ht : P.underlying t = some (.slice e)) (hi : P.info? e = some i)
    (v : Value) (n : Nat) (xs : List Value) (hown : w.ownsRow base e size v n xs) (c : Nat) : (Builtin.append_ #[t, t] ty #[v, .slice none 0 c]).run P w = .ok v w := by
  rcases hown.2 with ⟨rfl, rfl⟩ | ⟨g, cap, cur, rfl, _, _, hnc, _⟩
  · simp [Builtin.append_, run_underlying ht, sizeOf, typeInfo, hi, Builtin.lenOf, Builtin.firstCells]
  · simp [Builtin.append_, run_underlying ht, sizeOf, typeInfo, hi, Builtin.lenOf, Builtin.firstCells, hnc, storeCells]
theorem run_append_any (base : Nat) (t ty e : TypeId) (i : TypeInfo) (z : Value) (size bytes : Nat) (ht : P.underlying t = some (.slice e)) (hi : P.info? e = some i) (hz : i.zero = some z)
    (hsize : i.size = size) (hby : i.bytes = bytes) (hzs : z.cells.size = size) (hsz : 0 < size)
    (v : Value) (n : Nat) (xs : List Value) (hown : w.ownsRow base e size v n xs)
    (lo hi' : Nat) (A : Option Addr) (m c : Nat) (news : List Value) (hr : Rd w lo hi' size A m news) (h1 : ∀ u ∈ news, u.oneCell' = true)
    (h63 : n + m ≤ maxLen) (hbytes : (n + m) * bytes ≤ 140737488355328) (hbase : base ≤ w.heap.size) :
    ∃ v' w', (Builtin.append_ #[t, t] ty #[v, .slice A m c]).run P w = .ok v' w' ∧ w'.ownsRow base e size v' (n + m) (xs ++ news) ∧ w.grownBy w' v.ownBlock ∧
      (v'.ownBlock = v.ownBlock ∨ v'.ownBlock = some w.heap.size) := by
  rcases A with _ | ad
  · have hm : m = 0 := by
      rcases Nat.eq_zero_or_pos m with h0 | h0
      · exact h0
      · obtain ⟨ad, h, _⟩ := hr.2 h0
        cases h
    subst hm
    have hn : news = [] := List.eq_nil_of_length_eq_zero (by simpa using hr.1)
    subst hn
    exact ⟨v, w, run_append_of_nil w base t ty e i size ht hi v n xs hown c, by simpa using hown, World.grownBy.refl w _, .inl rfl⟩
  · have hcells : ∀ j u, news[j]? = some u → w.cell? (ad.add j) = some u := by
      intro j u hu
      rcases Nat.eq_zero_or_pos m with h0 | h0
      · subst h0
        have hn : news = [] := List.eq_nil_of_length_eq_zero (by simpa using hr.1)
        subst hn
        simp at hu
      · obtain ⟨ad', h, _, _, hc⟩ := hr.2 h0
        injection h with h
        subst h
        exact hc j u hu
    obtain ⟨v', w', hrun, h2, h3, _, h5⟩ := run_append_own_at (P := P) w base t ty e i z size bytes ht hi hz hsize hby hzs hsz v n xs hown ad m c news hr.1 hcells h1 h63 hbytes hbase
    exact ⟨v', w', hrun, h2, h3, h5⟩
theorem wp_append_any {o : Oper} {a : Act} {K : Act → World → Prop} {Q : Exit → Act → World → Prop} (s x : Operand) (t : TypeId)
    (ho : o.op = .call { callee := .builtin .append, args := #[s, x], argTypes := #[t, t] })
    (base : Nat) (e : TypeId) (i : TypeInfo) (z : Value) (size bytes : Nat) (ht : P.underlying t = some (.slice e)) (hi : P.info? e = some i) (hz : i.zero = some z)
    (hsize : i.size = size) (hby : i.bytes = bytes) (hzs : z.cells.size = size) (hsz : 0 < size)
    (v : Value) (n : Nat) (xs : List Value) (hs : a.eval s = v) (hown : w.ownsRow base e size v n xs)
    (lo hi' : Nat) (A : Option Addr) (m c : Nat) (news : List Value) (hx : a.eval x = .slice A m c) (hr : Rd w lo hi' size A m news) (h1 : ∀ u ∈ news, u.oneCell' = true)
    (h63 : n + m ≤ maxLen) (hbytes : (n + m) * bytes ≤ 140737488355328) (hbase : base ≤ w.heap.size)
    (h : ∀ v' w', w'.ownsRow base e size v' (n + m) (xs ++ news) → w.grownBy w' v.ownBlock → (v'.ownBlock = v.ownBlock ∨ v'.ownBlock = some w.heap.size) → K (a.put o.dst v') w') : o.wp P a w K Q := by
  obtain ⟨v', w', hrun, h2, h3, h4⟩ := run_append_any (P := P) w base t o.type e i z size bytes ht hi hz hsize hby hzs hsz v n xs hown lo hi' A m c news hr h1 h63 hbytes hbase
  unfold Oper.wp execOp
  simp only [ho, resolve, invoke, builtin, Sem.run_bind, Sem.run_pure, Result.andThen_ok, List.map_toArray, List.map_cons, List.map_nil, hs, hx, hrun]
  exact h v' w' h2 h3 h4
theorem wpList_append_any {ops : Array Oper} {rest : List Oper} {o : Oper} {a : Act} {Q : Exit → Act → World → Prop} (hgd : o.guard = none) (s x : Operand) (t : TypeId)
    (ho : o.op = .call { callee := .builtin .append, args := #[s, x], argTypes := #[t, t] })
    (base : Nat) (e : TypeId) (i : TypeInfo) (z : Value) (size bytes : Nat) (ht : P.underlying t = some (.slice e)) (hi : P.info? e = some i) (hz : i.zero = some z)
    (hsize : i.size = size) (hby : i.bytes = bytes) (hzs : z.cells.size = size) (hsz : 0 < size)
    (v : Value) (n : Nat) (xs : List Value) (hs : a.eval s = v) (hown : w.ownsRow base e size v n xs)
    (lo hi' : Nat) (A : Option Addr) (m c : Nat) (news : List Value) (hx : a.eval x = .slice A m c) (hr : Rd w lo hi' size A m news) (h1 : ∀ u ∈ news, u.oneCell' = true)
    (h63 : n + m ≤ maxLen) (hbytes : (n + m) * bytes ≤ 140737488355328) (hbase : base ≤ w.heap.size)
    (h : ∀ v' w', w'.ownsRow base e size v' (n + m) (xs ++ news) → w.grownBy w' v.ownBlock → (v'.ownBlock = v.ownBlock ∨ v'.ownBlock = some w.heap.size) → wpList P ops Q rest (a.put o.dst v') w') : wpList P ops Q (o :: rest) a w :=
  wpList_plain hgd fun _ hK => wp_append_any w s x t ho base e i z size bytes ht hi hz hsize hby hzs hsz v n xs hs hown lo hi' A m c news hx hr h1 h63 hbytes hbase fun v' w' h2 h3 h4 => hK _ _ (h v' w' h2 h3 h4)
end
/-! ### Commands and ledgers -/

structure Cmd where
  kind : Int
  idn : Int
  idb : Int
  ids : Int
  bucket : ByteArray
  key : ByteArray
  upn : Int
  upb : Int
  ups : Int
  pbn : Int
  pbb : Int
  pbs : Int
  psize : Int
  etag : ByteArray
  part : Int
  parts : List Int
  time : Int
  days : Int
/-- A command's eighteen cells; pv: the slice of its parts. -/
def Cmd.cells (c : Cmd) (pv : Value) : List Value :=
  [.int .i64 c.kind, .int .i64 c.idn, .int .i64 c.idb, .int .i64 c.ids, .string c.bucket, .string c.key, .int .i64 c.upn, .int .i64 c.upb, .int .i64 c.ups, .int .i64 c.pbn, .int .i64 c.pbb, .int .i64 c.pbs,
    .int .i64 c.psize, .string c.etag, .int .i64 c.part, pv, .int .i64 c.time, .int .i64 c.days]
theorem Cmd.cells_length (c : Cmd) (pv : Value) : (c.cells pv).length = 18 := rfl
def ints (xs : List Int) : List Value := xs.map (Value.int .i64)
def IntsAt (w : World) (lo hi : Nat) (v : Value) (xs : List Int) : Prop :=
  ∃ A c, v = .slice A xs.length c ∧ xs.length ≤ c ∧ c ≤ maxLen ∧ xs.length * 8 ≤ 140737488355328 ∧ Rd w lo hi 1 A xs.length (ints xs)
def CmdAt (w : World) (lo hi : Nat) (cs : List Value) (c : Cmd) : Prop := ∃ pv, cs = c.cells pv ∧ IntsAt w lo hi pv c.parts
/-- The rows of cells of a list of commands. -/
def RowsAt (w : World) (lo hi : Nat) (rows : List (List Value)) (l : List Cmd) : Prop :=
  rows.length = l.length ∧ ∀ (i : Nat) (r : List Value) (c : Cmd), rows[i]? = some r → l[i]? = some c → CmdAt w lo hi r c
def LedAt (w : World) (lo hi : Nat) (v : Value) (l : List Cmd) : Prop :=
  ∃ A c rows, v = .slice A l.length c ∧ l.length ≤ c ∧ c ≤ maxLen ∧ l.length * 184 ≤ 140737488355328 ∧ Rd w lo hi 18 A l.length rows.flatten ∧ RowsAt w lo hi rows l
/-- .. of the call's own memory: whole blocks, from lo to hi, not frozen. -/
def OwnRow (w : World) (lo hi : Nat) (e : TypeId) (size : Nat) (v : Value) (n : Nat) (xs : List Value) : Prop :=
  w.ownsRow lo e size v n xs ∧ ∀ g, v.ownBlock = some g → g < hi
def OwnInts (w : World) (lo hi : Nat) (v : Value) (xs : List Int) : Prop := OwnRow w lo hi 3 1 v xs.length (ints xs) ∧ xs.length * 8 ≤ 140737488355328
def OwnCmd (w : World) (lo hi : Nat) (cs : List Value) (c : Cmd) : Prop := ∃ pv, cs = c.cells pv ∧ OwnInts w lo hi pv c.parts
def OwnRows (w : World) (lo hi : Nat) (rows : List (List Value)) (l : List Cmd) : Prop :=
  rows.length = l.length ∧ ∀ (i : Nat) (r : List Value) (c : Cmd), rows[i]? = some r → l[i]? = some c → OwnCmd w lo hi r c
def OwnLed (w : World) (lo hi : Nat) (v : Value) (l : List Cmd) : Prop :=
  ∃ rows, OwnRow w lo hi 81 18 v l.length rows.flatten ∧ l.length * 184 ≤ 140737488355328 ∧ OwnRows w lo hi rows l
section
variable {w w' : World} {lo hi lo' hi' B size n : Nat} {S : Nat → Prop} {e : TypeId} {v : Value} {xs : List Value}
theorem IntsAt.fr {ys : List Int} (h : IntsAt w lo hi v ys) (f : Fr B S w w') (hB : hi ≤ B) (hS : ∀ k, lo ≤ k → k < hi → ¬ S k) : IntsAt w' lo hi v ys := by
  obtain ⟨A, c, h1, h2, h3, h4, h5⟩ := h
  exact ⟨A, c, h1, h2, h3, h4, h5.fr f hB hS⟩
theorem CmdAt.fr {cs : List Value} {c : Cmd} (h : CmdAt w lo hi cs c) (f : Fr B S w w') (hB : hi ≤ B) (hS : ∀ k, lo ≤ k → k < hi → ¬ S k) : CmdAt w' lo hi cs c := by
  obtain ⟨pv, h1, h2⟩ := h
  exact ⟨pv, h1, h2.fr f hB hS⟩
theorem RowsAt.fr {rows : List (List Value)} {l : List Cmd} (h : RowsAt w lo hi rows l) (f : Fr B S w w') (hB : hi ≤ B) (hS : ∀ k, lo ≤ k → k < hi → ¬ S k) : RowsAt w' lo hi rows l :=
  ⟨h.1, fun i r c h1 h2 => (h.2 i r c h1 h2).fr f hB hS⟩
theorem LedAt.fr {l : List Cmd} (h : LedAt w lo hi v l) (f : Fr B S w w') (hB : hi ≤ B) (hS : ∀ k, lo ≤ k → k < hi → ¬ S k) : LedAt w' lo hi v l := by
  obtain ⟨A, c, rows, h1, h2, h3, h4, h5, h6⟩ := h
  exact ⟨A, c, rows, h1, h2, h3, h4, h5.fr f hB hS, h6.fr f hB hS⟩
theorem OwnRow.fr (h : OwnRow w lo hi e size v n xs) (f : Fr B S w w') (hB : hi ≤ B) (hS : ∀ k, lo ≤ k → k < hi → ¬ S k) : OwnRow w' lo hi e size v n xs := by
  refine ⟨⟨h.1.1, ?_⟩, h.2⟩
  rcases h.1.2 with h2 | ⟨g, cap, cur, rfl, hb, hh, hr⟩
  · exact .inl h2
  · have hg := h.2 g rfl
    exact .inr ⟨g, cap, cur, rfl, hb, (f.block g (by omega) (hS g hb hg)).trans hh, hr⟩
theorem OwnRow.wider (h : OwnRow w lo hi e size v n xs) (hl : lo' ≤ lo) (hh : hi ≤ hi') : OwnRow w lo' hi' e size v n xs := by
  refine ⟨⟨h.1.1, ?_⟩, fun g hg => by have := h.2 g hg; omega⟩
  rcases h.1.2 with h2 | ⟨g, cap, cur, rfl, hb, hr⟩
  · exact .inl h2
  · exact .inr ⟨g, cap, cur, rfl, by omega, hr⟩
theorem OwnLed.nil_ (w : World) (lo hi : Nat) : OwnLed w lo hi (.slice none 0 0) [] :=
  ⟨[], ⟨World.ownsRow_nil _ _ _ _, fun g hg => by simp [Value.ownBlock] at hg⟩, by simp, rfl, fun i r c h _ => by simp at h⟩
/-- What is owned is a slice whose length is within its capacity. -/
theorem OwnRow.form (h : OwnRow w lo hi e size v n xs) : ∃ A c, v = .slice A n c ∧ n ≤ c ∧ c ≤ maxLen ∧ (A = none → n = 0 ∧ c = 0) := by
  rcases h.1.2 with ⟨rfl, rfl⟩ | ⟨g, cap, cur, rfl, _, _, h1, h2, _⟩
  · exact ⟨none, 0, rfl, Nat.le_refl _, by simp [maxLen], fun _ => ⟨rfl, rfl⟩⟩
  · exact ⟨_, _, rfl, h1, h2, fun h => by cases h⟩
theorem OwnInts.at_ {ys : List Int} (h : OwnInts w lo hi v ys) : IntsAt w lo hi v ys := by
  obtain ⟨A, c, rfl, h1, h2, _⟩ := h.1.form
  exact ⟨A, c, rfl, h1, h2, h.2, Rd.of_own h.1.1 h.1.2⟩
theorem OwnCmd.at_ {cs : List Value} {c : Cmd} (h : OwnCmd w lo hi cs c) : CmdAt w lo hi cs c := by
  obtain ⟨pv, h1, h2⟩ := h
  exact ⟨pv, h1, h2.at_⟩
theorem OwnLed.at_ {l : List Cmd} (h : OwnLed w lo hi v l) : LedAt w lo hi v l := by
  obtain ⟨rows, h1, h2, h3⟩ := h
  obtain ⟨A, c, rfl, g1, g2, _⟩ := h1.form
  exact ⟨A, c, rows, rfl, g1, g2, h2, Rd.of_own h1.1 h1.2, h3.1, fun i r c e1 e2 => (h3.2 i r c e1 e2).at_⟩
end
theorem ints_getElem? (xs : List Int) (i : Nat) : (ints xs)[i]? = (xs[i]?).map (Value.int .i64) := by simp [ints]
theorem ints_length (xs : List Int) : (ints xs).length = xs.length := by simp [ints]
/-- The cells of row i, in the rows laid one behind the other. -/
theorem flatten_get (rows : List (List Value)) (hl : ∀ r ∈ rows, r.length = 18) (i j : Nat) (r : List Value) (hr : rows[i]? = some r) (hj : j < 18) : rows.flatten[i * 18 + j]? = r[j]? := by
  induction rows generalizing i with
  | nil => simp at hr
  | cons r0 rows ih =>
    have h0 : r0.length = 18 := hl r0 (by simp)
    cases i with
    | zero =>
      simp at hr
      subst hr
      simp only [List.flatten_cons, Nat.zero_mul, Nat.zero_add]
      rw [List.getElem?_append_left (by omega)]
    | succ i =>
      simp at hr
      have := ih (fun r h => hl r (by simp [h])) i hr
      simp only [List.flatten_cons]
      rw [List.getElem?_append_right (by omega), ← this]
      congr 1
      omega
theorem RowsAt.len18 {w : World} {lo hi : Nat} {rows : List (List Value)} {l : List Cmd} (h : RowsAt w lo hi rows l) : ∀ r ∈ rows, r.length = 18 := by
  intro r hr
  obtain ⟨i, hi', rfl⟩ := List.getElem_of_mem hr
  have hl : i < l.length := by have := h.1; omega
  obtain ⟨pv, e, _⟩ := h.2 i rows[i] l[i] (List.getElem?_eq_getElem hi') (List.getElem?_eq_getElem hl)
  rw [e]; rfl
/-- Element i of a ledger: its cells, one by one, and what they are. -/
theorem LedAt.elem {w : World} {lo hi : Nat} {v : Value} {l : List Cmd} (h : LedAt w lo hi v l) {i : Nat} {c : Cmd} (hc : l[i]? = some c) :
    ∃ ad cap pv, v = .slice (some ad) l.length cap ∧ lo ≤ ad.block ∧ ad.block < hi ∧ (∀ j, j < 18 → w.cell? (ad.add (i * 18 + j)) = (c.cells pv)[j]?) ∧ IntsAt w lo hi pv c.parts := by
  obtain ⟨A, cap, rows, rfl, _, _, _, hr, hrows⟩ := h
  obtain ⟨hi', he⟩ := List.getElem?_eq_some_iff.1 hc
  obtain ⟨ad, rfl, h1, h2, h3⟩ := hr.2 (by omega)
  have hlen := hrows.1
  have hri : rows[i]? = some rows[i] := List.getElem?_eq_getElem (by omega)
  obtain ⟨pv, e1, e2⟩ := hrows.2 i _ c hri hc
  refine ⟨ad, cap, pv, rfl, h1, h2, fun j hj => ?_, e2⟩
  have hf := flatten_get rows hrows.len18 i j _ hri hj
  have hj' : j < (c.cells pv).length := by rw [Cmd.cells_length]; exact hj
  rw [e1, List.getElem?_eq_getElem hj'] at hf
  rw [h3 _ _ hf, List.getElem?_eq_getElem hj']
theorem LedAt.form {w : World} {lo hi : Nat} {v : Value} {l : List Cmd} (h : LedAt w lo hi v l) : ∃ A c, v = .slice A l.length c ∧ l.length ≤ c ∧ c ≤ maxLen ∧ l.length * 184 ≤ 140737488355328 := by
  obtain ⟨A, c, rows, h1, h2, h3, h4, _⟩ := h
  exact ⟨A, c, h1, h2, h3, h4⟩
end Go.Proofs.YtnlncfjibbdimaaDoor

namespace Go.Proofs.YtnlncfjibbdimaaDoor
open Go.RowKit
set_option linter.unusedSimpArgs false
set_option linter.unusedVariables false
abbrev errv (a : Addr) : Value := .iface 251 (.pointer (some a))
/-- Is a ballot above another one? -/
def ab (r1 n1 r2 n2 : Int) : Bool := decide (r2 < r1) || (decide (r1 = r2) && decide (n2 < n1))
/-- Is a ballot legal? -/
def lg (r n : Int) : Bool := decide (1 ≤ r ∧ r ≤ 1099511627776 ∧ 0 ≤ n ∧ n < 16)
set_option maxHeartbeats 400000 in
theorem above_any (r1 n1 r2 n2 : Int) (w : World) :
    Calls Tryd.prog 23 #[.agg #[.int .i64 r1, .int .i64 n1], .agg #[.int .i64 r2, .int .i64 n2]] w fun e w' =>
      e = .returned (.bool (ab r1 n1 r2 n2)) ∧ Below w.heap.size w w' := by
  go_enter Tryd.func23, Tryd.ntmps23
  go_wp2
  all_goals
    go_ret
    refine ⟨ret_bool ?_, ((Below.refl _ _).alloc (by simp) _).alloc (by simp) _⟩
    rw [Bool.eq_iff_iff]
    simp only [ab, Bool.or_eq_true, Bool.and_eq_true, decide_eq_true_eq, true_iff]
    omega
set_option maxHeartbeats 400000 in
theorem legal_any (r n : Int) (w : World) :
    Calls Tryd.prog 145 #[.agg #[.int .i64 r, .int .i64 n]] w fun e w' => e = .returned (.bool (lg r n)) ∧ Below w.heap.size w w' := by
  go_enter Tryd.func145, Tryd.ntmps145
  go_wp2
  all_goals
    go_ret
    refine ⟨ret_bool ?_, (Below.refl _ _).alloc (by simp) _⟩
    rw [Bool.eq_iff_iff]
    simp only [lg, Bool.or_eq_true, Bool.and_eq_true, decide_eq_true_eq, true_iff, Bool.false_eq_true, false_iff]
    omega
set_option maxHeartbeats 400000 in
theorem rlegal_any (r n : Int) (w : World) :
    Calls Tryd.prog 57 #[.agg #[.int .i64 r, .int .i64 n]] w fun e w' => e = .returned (.bool (lg r n)) ∧ Below w.heap.size w w' := by
  go_enter Tryd.func57, Tryd.ntmps57
  go_wp2
  all_goals
    go_ret
    refine ⟨ret_bool ?_, (Below.refl _ _).alloc (by simp) _⟩
    rw [Bool.eq_iff_iff]
    simp only [lg, Bool.or_eq_true, Bool.and_eq_true, decide_eq_true_eq, true_iff, Bool.false_eq_true, false_iff]
    omega
end Go.Proofs.YtnlncfjibbdimaaDoor

namespace Go.Proofs.YtnlncfjibbdimaaDoor
open Go.RowKit
set_option linter.unusedSimpArgs false
set_option linter.unusedVariables false
theorem err_info : ∃ i j, Tryd.prog.info? 251 = some i ∧ i.comparable = true ∧ Tryd.prog.info? 266 = some j ∧ j.size ≠ 0 := by
  have h1 : (Tryd.prog.info? 251).map (·.comparable) = some true := by kernel_rfl
  have h2 : (Tryd.prog.info? 266).map (·.size) = some 1 := by kernel_rfl
  cases hi : Tryd.prog.info? 251 with
  | none => rw [hi] at h1; simp at h1
  | some i =>
    cases hj : Tryd.prog.info? 266 with
    | none => rw [hj] at h2; simp at h2
    | some j =>
      rw [hi] at h1
      rw [hj] at h2
      simp at h1 h2
      exact ⟨i, j, rfl, h1, rfl, by omega⟩
theorem errEq_same (a : Addr) (w : World) : (binOp .eql 34 (errv a) (errv a)).run Tryd.prog w = .ok (.bool true) w := by
  obtain ⟨i, j, h1, h2, h3, _⟩ := err_info
  exact run_eql_iface_ptr_same w a Tryd.underlying34 Tryd.underlying251 h1 h2 h3
/-- Known blocks of two unlike errors. -/
def ErrBlk (w : World) (a : Addr) : Prop := ∃ c t, w.heap[a.block]? = some (.cells c t (0, 0))
/-- The sentinels of the listed globals: A g is where the error of global g lies; all of it below block B. -/
structure Errs (w : World) (B : Nat) (A : Nat → Addr) (G : List Nat) : Prop where
  lt : ∀ g ∈ G, g < B ∧ (A g).block < B
  cell : ∀ g ∈ G, w.cell? ⟨g, 0, none⟩ = some (errv (A g))
  blk : ∀ g ∈ G, ErrBlk w (A g)
  inj : ∀ g ∈ G, ∀ g' ∈ G, A g = A g' → g = g'
end Go.Proofs.YtnlncfjibbdimaaDoor

namespace Go.Proofs.YtnlncfjibbdimaaDoor
open Go.RowKit
set_option linter.unusedSimpArgs false
set_option linter.unusedVariables false
/-- Every operation comes behind those that it waits for. -/
def readyB (md : Region.Mode) : Nat → List Oper → Bool
  | _, [] => true
  | k, o :: r => o.after.toList.all (fun e => !Region.binds md e || Nat.blt e.on k) && readyB md (k + 1) r
/-- No two operations are in each other's way, but where one waits for the other. -/
def pairsB (md : Region.Mode) (ops : Array Oper) : Nat → List Oper → Bool
  | _, [] => true
  | i, o :: r => r.all (fun p => o.apart ops p || p.after.toList.any (fun e => Region.binds md e && e.on == i)) && pairsB md ops (i + 1) r
theorem readyB_spec {md : Region.Mode} : ∀ {l : List Oper} {k : Nat}, readyB md k l = true → ∀ i o, l[i]? = some o → ∀ e ∈ o.after, Region.binds md e = true → e.on < k + i
  | o :: r, k, h, 0, p, hp, e, he, hb => by
    simp only [readyB, Bool.and_eq_true, List.all_eq_true] at h
    simp only [List.getElem?_cons_zero, Option.some.injEq] at hp
    subst hp
    have := h.1 e (by simpa using he)
    simpa [hb, Nat.blt_eq] using this
  | o :: r, k, h, i + 1, p, hp, e, he, hb => by
    simp only [readyB, Bool.and_eq_true] at h
    simp only [List.getElem?_cons_succ] at hp
    have := readyB_spec h.2 i p hp e he hb
    omega
  | [], _, _, i, p, hp, _, _, _ => by simp at hp
theorem pairsB_spec {md : Region.Mode} {ops : Array Oper} : ∀ {l : List Oper} {k : Nat}, pairsB md ops k l = true → ∀ i j oi oj, i < j → l[i]? = some oi → l[j]? = some oj →
    oi.apart ops oj = true ∨ ∃ e ∈ oj.after, Region.binds md e = true ∧ e.on = k + i
  | o :: r, k, h, 0, j + 1, oi, oj, hij, hi, hj => by
    simp only [pairsB, Bool.and_eq_true, List.all_eq_true] at h
    simp only [List.getElem?_cons_zero, Option.some.injEq] at hi
    simp only [List.getElem?_cons_succ] at hj
    subst hi
    have := h.1 oj (List.mem_of_getElem? hj)
    rw [Bool.or_eq_true] at this
    rcases this with h1 | h1
    · exact .inl h1
    · right
      obtain ⟨e, he, hb⟩ := List.any_eq_true.1 h1
      simp only [Bool.and_eq_true, beq_iff_eq] at hb
      exact ⟨e, by simpa using he, hb.1, by omega⟩
  | o :: r, k, h, i + 1, j + 1, oi, oj, hij, hi, hj => by
    simp only [pairsB, Bool.and_eq_true] at h
    simp only [List.getElem?_cons_succ] at hi hj
    rcases pairsB_spec h.2 i j oi oj (by omega) hi hj with h1 | ⟨e, h1, h2, h3⟩
    · exact .inl h1
    · exact .inr ⟨e, h1, h2, by omega⟩
  | _ :: _, _, _, _, 0, _, _, hij, _, _ => by omega
  | [], _, _, i, _, _, _, _, hi, _ => by simp at hi
theorem lexFrom_cheap {md : Region.Mode} {ops : Array Oper} (h2 : ∀ k o, ops[k]? = some o → ∀ e ∈ o.after, Region.binds md e = true → e.on < k)
    (h3 : ∀ i j oi oj, i < j → ops[i]? = some oi → ops[j]? = some oj → oi.apart ops oj = true ∨ ∃ e ∈ oj.after, Region.binds md e = true ∧ e.on = i) :
    ∀ (fuel k : Nat) (listed : Array Bool), fuel + k = ops.size → listed.size = ops.size → (∀ j, j < ops.size → listed[j]? = some (decide (j < k))) → Region.lexFrom md ops fuel k listed = true
  | 0, k, listed, hk, hs, hl => by
    simp only [Region.lexFrom, List.isEmpty_iff, Region.ready, List.filter_eq_nil_iff, List.mem_range]
    intro i hi
    have := hl i hi
    simp only [Array.getD_eq_getD_getElem?, this, Option.getD_some]
    rw [decide_eq_true (by omega)]
    simp
  | fuel + 1, k, listed, hk, hs, hl => by
    have hkn : k < ops.size := by omega
    have hok : ops[k]? = some ops[k] := Array.getElem?_eq_getElem hkn
    simp only [Region.lexFrom, Bool.and_eq_true]
    refine ⟨⟨?_, ?_⟩, ?_⟩
    · rw [List.contains_iff_mem]
      simp only [Region.ready, List.mem_filter, List.mem_range, Bool.and_eq_true]
      refine ⟨hkn, ?_, ?_⟩
      · simp only [Array.getD_eq_getD_getElem?, hl k hkn, Option.getD_some]
        rw [decide_eq_false (by omega)]
        rfl
      · rw [hok]
        simp only [Option.map_some, Option.getD_some]
        rw [Array.all_eq_true_iff_forall_mem]
        intro e he
        cases hb : Region.binds md e with
        | false => rfl
        | true =>
          have h := h2 k _ hok e he hb
          simp only [Array.getD_eq_getD_getElem?, hl e.on (by omega), Option.getD_some]
          rw [decide_eq_true h]
          rfl
    · simp only [Region.free, hok, List.all_eq_true, List.mem_range]
      intro j hj
      by_cases hjk : j = k
      · subst hjk; simp
      · by_cases hlt : j < k
        · simp only [Array.getD_eq_getD_getElem?, hl j hj, Option.getD_some]
          rw [decide_eq_true hlt]
          simp
        · have hoj : ops[j]? = some ops[j] := Array.getElem?_eq_getElem hj
          rw [hoj]
          simp only
          rcases h3 k j _ _ (by omega) hok hoj with h | ⟨e, he, hb, hon⟩
          · rw [h]; simp
          · have : (ops[j]).after.any (fun e => Region.binds md e && e.on == k) = true := by
              rw [Array.any_eq_true']
              exact ⟨e, he, by simp [hb, hon]⟩
            rw [this]; simp
    · refine lexFrom_cheap h2 h3 fuel (k + 1) _ (by omega) (by simpa using hs) (fun j hj => ?_)
      by_cases hjk : j = k
      · subst hjk
        rw [Array.getElem?_setIfInBounds_self_of_lt (by omega)]
        rw [decide_eq_true (by omega)]
      · rw [Array.getElem?_setIfInBounds_ne (by omega), hl j hj]
        congr 1
        simp only [decide_eq_decide]
        omega
theorem lexB_cheap {md : Region.Mode} {l : List Oper} (h1 : Region.noSelect l.toArray = true) (h2 : readyB md 0 l = true) (h3 : pairsB md l.toArray 0 l = true) : Region.lexB md l.toArray = true := by
  unfold Region.lexB
  rw [h1, Bool.true_and]
  refine lexFrom_cheap (fun k o hk e he hb => ?_) (fun i j oi oj hij hi hj => ?_) _ 0 _ (by simp) (by simp) (fun j hj => ?_)
  · have := readyB_spec h2 k o (by simpa using hk) e he hb
    omega
  · rcases pairsB_spec h3 i j oi oj hij (by simpa using hi) (by simpa using hj) with h | ⟨e, q1, q2, q3⟩
    · exact .inl h
    · exact .inr ⟨e, q1, q2, by omega⟩
  · rw [Array.getElem?_replicate, if_pos hj]
    simp
theorem wp_region_quiet_cheap {P : Program} {id : Nat} {Q : Exit → Act → World → Prop} {a : Act} {w : World} {l : List Oper} (hm : P.follows .mixedOrders = true) (h1 : Region.noSelect l.toArray = true) (h2 : readyB .any 0 l = true) (h3 : pairsB .any l.toArray 0 l = true)
    (h : wpQuiet P l.toArray (fun w' => ∃ p : Regrown, w' = Go.Sort.grow (redrawn w p.d) p.os) (fun a' => ∀ w', (∃ p : Regrown, w' = Go.Sort.grow (redrawn w p.d) p.os) → Q .normal a' w') l a) : (Code.region id l.toArray true).wp P Q a w :=
  wp_region_quiet_below hm (lexB_cheap h1 h2 h3) h
end Go.Proofs.YtnlncfjibbdimaaDoor

namespace Go.Proofs.YtnlncfjibbdimaaDoor
open Go.RowKit
set_option linter.unusedSimpArgs false
set_option linter.unusedVariables false
theorem st74 : Tryd.prog.stoodInHeld 74 = false := by kernel_rfl
theorem st79 : Tryd.prog.stoodInHeld 79 = false := by kernel_rfl
theorem f74 : Tryd.prog.underlying 74 = some (.struct (Tryd.prog.fieldsOf 74)) := by unfold Program.fieldsOf; rw [Tryd.underlying74]
theorem f79 : Tryd.prog.underlying 79 = some (.struct (Tryd.prog.fieldsOf 79)) := by unfold Program.fieldsOf; rw [Tryd.underlying79]
def eq3 (a b c a' b' c' : Int) : Bool := decide (a = a') && (decide (b = b') && decide (c = c'))
set_option maxRecDepth 100000 in
theorem eqIn74 (a b c a' b' c' : Int) (d : Nat) (w : World) : (Op.equalIn (d + 2) 74 (.agg #[.int .i64 a, .int .i64 b, .int .i64 c]) (.agg #[.int .i64 a', .int .i64 b', .int .i64 c'])).run Tryd.prog w = .ok (eq3 a b c a' b' c') w := by
  rw [run_equalIn_struct w (d + 1) 74 _ _ f74 st74]
  simp only [Program.fieldsOf, Tryd.underlying74]
  simp [Op.eqFields, go_sem, part, eq3]
  by_cases h1 : a = a' <;> by_cases h2 : b = b' <;> by_cases h3 : c = c' <;> simp [h1, h2, h3]
theorem eq74 (a b c a' b' c' : Int) (w : World) : (binOp .eql 74 (.agg #[.int .i64 a, .int .i64 b, .int .i64 c]) (.agg #[.int .i64 a', .int .i64 b', .int .i64 c'])).run Tryd.prog w = .ok (.bool (eq3 a b c a' b' c')) w := by
  rw [run_eql_struct, show 10000 = 9998 + 2 from rfl, eqIn74]
  rfl
def eq5 (a b c z : Int) (s : ByteArray) (a' b' c' z' : Int) (s' : ByteArray) : Bool := eq3 a b c a' b' c' && (decide (z = z') && (s.toList == s'.toList))
set_option maxRecDepth 100000 in
theorem eq79 (a b c z : Int) (s : ByteArray) (a' b' c' z' : Int) (s' : ByteArray) (w : World) : (binOp .eql 79 (.agg #[.int .i64 a, .int .i64 b, .int .i64 c, .int .i64 z, .string s]) (.agg #[.int .i64 a', .int .i64 b', .int .i64 c', .int .i64 z', .string s'])).run Tryd.prog w = .ok (.bool (eq5 a b c z s a' b' c' z' s')) w := by
  rw [run_eql_struct, show 10000 = 9999 + 1 from rfl, run_equalIn_struct w 9999 79 _ _ f79 st79]
  have h := eqIn74 a b c a' b' c' 9997
  simp only [Program.fieldsOf, Tryd.underlying79]
  simp [Op.eqFields, part, Tryd.underlying74]
  have h' : (Op.equalIn 9999 74 (.agg #[.int .i64 a, .int .i64 b, .int .i64 c]) (.agg #[.int .i64 a', .int .i64 b', .int .i64 c'])).run Tryd.prog w = .ok (eq3 a b c a' b' c') w := h w
  rw [h']
  unfold eq5
  cases he : eq3 a b c a' b' c'
  · simp
  · have e1 := run_equalIn_int (P := Tryd.prog) w 9998 3 .i64 .i64 z z' Tryd.underlying3
    have e2 := run_equalIn_string (P := Tryd.prog) w 9998 9 s s' Tryd.underlying9
    simp only [Result.andThen_ok, Bool.true_eq_false, if_false]
    rw [show (9999 : Nat) = 9998 + 1 from rfl, e1]
    by_cases hz : z = z'
    · subst hz
      simp only [beq_self_eq_true, Result.andThen_ok, Bool.true_eq_false, if_false, e2]
      cases s.toList == s'.toList <;> simp
    · simp [hz]
end Go.Proofs.YtnlncfjibbdimaaDoor

namespace Go.Proofs.YtnlncfjibbdimaaDoor
open Go.RowKit
section
variable {P : Program} {ops : Array Oper} {rest : List Oper} {a : Act} {W : World} {Q : Exit → Act → World → Prop} {d : Option Tmp} {tp : TypeId} {ps : String} {af : Array Edge}
/-- A whole row (a struct, an array) is loaded. -/
theorem law_load (ty : TypeId) (x : Operand) (b o : Nat) (cs : List Value) (hx : a.eval x = .pointer (some ⟨b, o, none⟩)) (hc : W.rangeAt b o cs)
    {ds : TypeDesc} (hu : P.underlying ty = some ds) (hd : ds.isRow = true) (hi : (P.info? ty).map (·.size) = some cs.length)
    (h : wpList P ops Q rest (a.put d (.agg cs.toArray)) W) : wpList P ops Q ({ dst := d, op := .load ty x, type := tp, pos := ps, after := af, guard := none } :: rest) a W :=
  wpList_load_mid rfl ty x rfl b o hx cs ds hc hu hd hi h
theorem setRow_alloc (w : World) (old cells : Array Value) (t : TypeId) : (w.alloc (.cells old t)).setRow w.heap.size cells = w.alloc (.cells cells t) := by
  unfold World.setRow World.alloc
  congr 1
  apply Array.ext_getElem?
  intro i
  simp only [Array.getElem?_modify, Array.getElem?_push]
  by_cases h : i = w.heap.size
  · subst h; simp
  · rw [if_neg (by omega), if_neg (by omega), if_neg (by omega)]
/-- A whole row is stored into the block that has just been made. -/
theorem law_store_fresh (ty : TypeId) (x y : Operand) (w : World) (t : TypeId) (old cells : Array Value)
    (hx : a.eval x = .pointer (some ⟨w.heap.size, 0, none⟩)) (hy : a.eval y = .agg cells) (hW : W = w.alloc (.cells old t)) (hi : (P.info? ty).map (·.size) = some cells.size)
    (hold : old.size = cells.size) (h1 : cells.all (·.oneCell') = true)
    (h : wpList P ops Q rest (a.put d undef) (w.alloc (.cells cells t))) : wpList P ops Q ({ dst := d, op := .store ty x y, type := tp, pos := ps, after := af, guard := none } :: rest) a W := by
  subst hW
  refine wpList_store_row rfl ty x y rfl w.heap.size cells hx hy t old (heap_alloc_new w _) hi hold h1 ?_
  rw [setRow_alloc]
  exact h
end
theorem Blk.range {w : World} {g : Nat} {t : TypeId} {cs : List Value} (h : Blk w g t cs.toArray) : w.rangeAt g 0 cs := fun j v hv => by
  rw [h.cell]; simpa using hv
theorem rangeAt_fr {w w' : World} {b o B : Nat} {S : Nat → Prop} {cs : List Value} (h : w.rangeAt b o cs) (f : Fr B S w w') (hb : b < B) (hs : ¬ S b) : w'.rangeAt b o cs := fun j v hv =>
  (f.cell (p := ⟨b, o + j, none⟩) hb hs).trans (h j v hv)
theorem cells_oneCell (c : Cmd) (A : Option Addr) (n k : Nat) : (c.cells (.slice A n k)).toArray.all (·.oneCell') = true := by simp [Cmd.cells, Value.oneCell']
theorem cmd_info : (Tryd.prog.info? 81).map (·.size) = some 18 := by kernel_rfl
/-- Element i of a ledger, in the form that the walk's load asks. -/
theorem LedAt.range {w : World} {lo hi : Nat} {A : Option Addr} {n cap : Nat} {l : List Cmd} (h : LedAt w lo hi (.slice A n cap) l) {i : Nat} {c : Cmd} (hc : l[i]? = some c) :
    ∃ b o pv, A = some ⟨b, o, none⟩ ∧ lo ≤ b ∧ b < hi ∧ w.rangeAt b (o + i * 18) (c.cells pv) ∧ IntsAt w lo hi pv c.parts := by
  obtain ⟨ad, cap', pv, hv, h1, h2, h3, h4⟩ := h.elem hc
  obtain ⟨b, o, sp⟩ := ad
  have hA : A = some ⟨b, o, sp⟩ := by injection hv
  have hsp : sp = none := by
    have hlt := (List.getElem?_eq_some_iff.1 hc).1
    obtain ⟨ad', cap'', pv', hv', _, _, h3', _⟩ := h.elem (i := 0) (List.getElem?_eq_getElem (by omega))
    have hA' : A = some ad' := by injection hv'
    have h0 := h3' 0 (by omega)
    obtain rfl : ad' = ⟨b, o, sp⟩ := by rw [hA] at hA'; exact (Option.some.inj hA').symm
    have hc0 : ((l[0]'(by omega)).cells pv')[0]? = some (.int .i64 (l[0]'(by omega)).kind) := rfl
    rw [hc0] at h0
    simpa [Addr.add] using World.cell?_spot h0
  subst hsp
  refine ⟨b, o, pv, hA, h1, h2, fun j v hv => ?_, h4⟩
  have hj : j < 18 := by
    have := (List.getElem?_eq_some_iff.1 hv).1
    rwa [Cmd.cells_length] at this
  have := h3 j hj
  rw [Addr.add_mid] at this
  rw [← hv, ← this, Nat.add_assoc]
end Go.Proofs.YtnlncfjibbdimaaDoor

namespace Go.Proofs.YtnlncfjibbdimaaDoor
open Go.RowKit
set_option linter.unusedSimpArgs false
set_option linter.unusedVariables false
theorem wpList_of_quiet {P : Program} {ops : Array Oper} {C : World → Prop} {Q : Exit → Act → World → Prop} : ∀ (l : List Oper) (a : Act) (w : World), C w → wpQuiet P ops C (fun a' => ∀ w', C w' → Q .normal a' w') l a → wpList P ops Q l a w
  | [], a, w, hC, h => h w hC
  | o :: rest, a, w, hC, h => by
    unfold wpQuiet at h
    unfold wpList
    split at h
    · rename_i hw
      simp only [hw, if_true]
      exact .inl (Oper.wp_of_quiet hC (fun a w' hC' h' => wpList_of_quiet rest a w' hC' h') h)
    · rename_i hw
      simp only [hw, Bool.false_eq_true, if_false]
      exact wpList_of_quiet rest _ w hC h
theorem wp_region_lit_below {P : Program} {id : Nat} {Q : Exit → Act → World → Prop} {a : Act} {w : World} {l : List Oper}
    (h : wpQuiet P l.toArray (fun w' => ∃ p : Regrown, w' = Go.Sort.grow (redrawn w p.d) p.os) (fun a' => ∀ w', (∃ p : Regrown, w' = Go.Sort.grow (redrawn w p.d) p.os) → Q .normal a' w') l a) : (Code.region id l.toArray false).wp P Q a w :=
  wp_region_lit (wpList_of_quiet (C := fun w' => ∃ p : Regrown, w' = Go.Sort.grow (redrawn w p.d) p.os) l a w ⟨⟨w.drawn, #[]⟩, by simp [Go.Sort.grow, redrawn]⟩ h)
end Go.Proofs.YtnlncfjibbdimaaDoor
