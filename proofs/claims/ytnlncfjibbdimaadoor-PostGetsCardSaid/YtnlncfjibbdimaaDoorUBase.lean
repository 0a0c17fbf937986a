/-
  The words that all walks of this seat share: a frame with exceptions (Fr), a slice that reads as a list of cells (Rd), commands and ledgers in memory. No walk stands here.
  The walks of package ballot: Above, Half, legal, New, promise; and the document's Above, Legal.
  Sentinel errors: what the listed variables hold when the call begins; comparing two of them.
  What is common to all laws of this seat: from the row's reading of the arguments and the listed sentinels to a walk, and back.
  From a law's walk to the row's own statement: one theorem for all laws of this seat.
  How the data of this seat's laws lie in memory: off the row's reading of an argument.
  How ledgers and scripts lie in memory: off the row's reading of an argument.
-/
import Derived.Test.YtnlncfjibbdimaaDoorProg
import Derived.WalkKit
import Derived.WalkSpells
import Derived.Maps.AppendAt
import Derived.Deep.AppendLies
import Derived.Deep.Draws
import Derived.RegionTactic
import Derived.OwnWalk
import Derived.Below
import Derived.Lib.Hide
import Derived.Deep.QuietTactic
import Derived.BigQuiet
import Derived.Deep.RegionHeld3
import Derived.LaidEql
import Derived.Test.YtnlncfjibbdimaaDoorTie
import Derived.ProofKit
import Derived.LaidLaws
import Derived.LaidMore
import Derived.LaidHandle
import Derived.OpenShut
import Derived.Carry
import Derived.Stop.Joined
import Derived.SevenTiedAt
import Derived.Deep.Slices
import Derived.SizedLaws
namespace Go.Proofs.YtnlncfjibbdimaaDoor
open Go.RowKit
theorem ret_bool {a b : Bool} (h : a = b) : Ending.returned (.bool a) = .returned (.bool b) := by rw [h]
theorem ret_int {k : IntKind} {a b : Int} (h : a = b) : Ending.returned (.int k a) = .returned (.int k b) := by rw [h]
theorem block_of_add (a : Addr) (n : Nat) : (a.add n).block = a.block := by unfold Addr.add; split <;> rfl
theorem add_of_add (a : Addr) (i j : Nat) : (a.add i).add j = a.add (i + j) := by
  unfold Addr.add
  by_cases hi : i = 0 <;> by_cases hj : j = 0 <;> simp [hi, hj, Nat.add_assoc]
/-! ### The frame -/

/-- Below block number B the world w' is as w was, but for the blocks of S. -/
structure Fr (B : Nat) (S : Nat → Prop) (w w' : World) : Prop where
  os : w'.os = w.os
  tape : w'.tape = w.tape
  output : w'.output = w.output
  size : w.heap.size ≤ w'.heap.size
  block : ∀ k, k < B → ¬ S k → w'.heap[k]? = w.heap[k]?
section
variable {B B' : Nat} {S S' : Nat → Prop} {a b c w w' : World}
theorem Fr.refl (B : Nat) (S : Nat → Prop) (w : World) : Fr B S w w := ⟨rfl, rfl, rfl, Nat.le_refl _, fun _ _ _ => rfl⟩
theorem Fr.of_below (h : Below B w w') (S : Nat → Prop) : Fr B S w w' := ⟨h.os, h.tape, h.output, h.size, fun k hk _ => h.block k hk⟩
theorem Fr.below (h : Fr B S w w') (hs : ∀ k, k < B → ¬ S k) : Below B w w' := ⟨h.os, h.tape, h.output, h.size, fun k hk => h.block k hk (hs k hk)⟩
theorem Fr.trans (h : Fr B S a b) (k : Fr B S b c) : Fr B S a c :=
  ⟨k.os.trans h.os, k.tape.trans h.tape, k.output.trans h.output, Nat.le_trans h.size k.size, fun i hi hs => (k.block i hi hs).trans (h.block i hi hs)⟩
theorem Fr.mono (h : Fr B S w w') (hB : B' ≤ B) (hS : ∀ k, k < B' → S k → S' k) : Fr B' S' w w' :=
  ⟨h.os, h.tape, h.output, h.size, fun k hk hs => h.block k (by omega) (fun h' => hs (hS k hk h'))⟩
theorem Fr.step (h : Fr B S a b) (k : Fr B' S' b c) (hB : B ≤ B') (hS : ∀ k, k < B → S' k → S k) : Fr B S a c := h.trans (k.mono hB hS)
theorem Fr.alloc (h : Fr B S a w) (hB : B ≤ w.heap.size) (o : Obj) : Fr B S a (w.alloc o) := h.trans (.of_below ((Below.refl _ _).alloc hB o) _)
theorem Fr.drew (h : Fr B S a w) : Fr B S a w.drew := ⟨h.os, h.tape, h.output, h.size, h.block⟩
theorem Fr.setCell (h : Fr B S a w) {p : Addr} (hp : S p.block ∨ B ≤ p.block) (u : Value) : Fr B S a (w.setCell p u) :=
  h.trans ⟨rfl, rfl, rfl, by simp, fun k hk hs => Below.heap_setCell _ _ _ _ (by
    rintro rfl
    rcases hp with hp | hp
    · exact hs hp
    · omega)⟩
theorem Fr.grown (h : Fr B S a w) {row : Option Nat} (hg : w.grownBy w' row) (hB : B ≤ w.heap.size) (hr : ∀ k, row = some k → S k ∨ B ≤ k) : Fr B S a w' :=
  h.trans ⟨hg.os, hg.tape, hg.output, hg.size, fun k hk hs => hg.block k (by omega) (fun e => by
    rcases hr k e.symm with h1 | h1
    · exact hs h1
    · omega)⟩
theorem Fr.cell (h : Fr B S w w') {p : Addr} (hp : p.block < B) (hs : ¬ S p.block) : w'.cell? p = w.cell? p := World.cell?_of_block (w := w) (h.block p.block hp hs)
theorem Fr.frozen (h : Fr B S w w') {p : Addr} (hp : p.block < B) (hs : ¬ S p.block) : w'.frozen? p = w.frozen? p := World.frozen?_of_block (w := w) (h.block p.block hp hs)
end
/-- The world is put behind a letter: what is to be known of it is said here. -/
theorem wp_letter {P : Program} {c : Code} {Q : Exit → Act → World → Prop} {a : Act} {W : World} (R : World → Prop) (hR : R W) (h : ∀ W', R W' → c.wp P Q a W') : c.wp P Q a W := h W hR
/-! ### A block that is known whole -/

def Blk (w : World) (g : Nat) (t : TypeId) (cs : Array Value) : Prop := w.heap[g]? = some (.cells cs t (0, 0))
section
variable {w w' : World} {g : Nat} {t : TypeId} {cs : Array Value}
theorem Blk.lt (h : Blk w g t cs) : g < w.heap.size := by
  rcases Nat.lt_or_ge g w.heap.size with hlt | hge
  · exact hlt
  · unfold Blk at h; rw [Array.getElem?_eq_none hge] at h; cases h
theorem Blk.cell (h : Blk w g t cs) (i : Nat) : w.cell? ⟨g, i, none⟩ = cs[i]? := cell_of_row w g i cs t (0, 0) h
theorem Blk.frozen (h : Blk w g t cs) (i : Nat) : w.frozen? ⟨g, i, none⟩ = false := by
  unfold Blk at h
  simp [World.frozen?, h]
theorem Blk.new (w : World) (t : TypeId) (cs : Array Value) : Blk (w.alloc (.cells cs t)) w.heap.size t cs := heap_alloc_new w _
theorem Blk.new1 (w : World) (o : Obj) (t : TypeId) (cs : Array Value) : Blk ((w.alloc o).alloc (.cells cs t)) (w.heap.size + 1) t cs := by
  have := Blk.new (w.alloc o) t cs
  simpa using this
theorem Blk.drew (h : Blk w g t cs) : Blk w.drew g t cs := h
theorem Blk.drewN (h : Blk w g t cs) (n : Nat) : Blk (w.drewN n) g t cs := h
theorem Blk.alloc (h : Blk w g t cs) (o : Obj) : Blk (w.alloc o) g t cs := (Below.heap_alloc w o g h.lt).trans h
theorem Blk.set_ (h : Blk w g t cs) (i : Nat) (u : Value) : Blk (w.setCell ⟨g, i, none⟩ u) g t (cs.setIfInBounds i u) := by
  unfold Blk at h ⊢
  simp [World.setCell, Array.getElem?_modify, h]
theorem Blk.far (h : Blk w g t cs) {p : Addr} (hp : g ≠ p.block) (u : Value) : Blk (w.setCell p u) g t cs := (Below.heap_setCell w p u g hp).trans h
theorem Blk.below {B : Nat} (h : Blk w g t cs) (hb : Below B w w') (hg : g < B) : Blk w' g t cs := (hb.block g hg).trans h
theorem Blk.fr {B : Nat} {S : Nat → Prop} (h : Blk w g t cs) (hb : Fr B S w w') (hg : g < B) (hs : ¬ S g) : Blk w' g t cs := (hb.block g hg hs).trans h
theorem Blk.grown {row : Option Nat} (h : Blk w g t cs) (hb : w.grownBy w' row) (hg : some g ≠ row) : Blk w' g t cs := (hb.block g h.lt hg).trans h
end
/-! ### A slice that reads as a list of cells, from blocks lo to hi -/

def Rd (w : World) (lo hi size : Nat) (A : Option Addr) (n : Nat) (xs : List Value) : Prop :=
  xs.length = n * size ∧ (0 < n → ∃ ad, A = some ad ∧ lo ≤ ad.block ∧ ad.block < hi ∧ ∀ j u, xs[j]? = some u → w.cell? (ad.add j) = some u)
section
variable {w w' : World} {lo hi lo' hi' size n B : Nat} {S : Nat → Prop} {A : Option Addr} {xs : List Value}
theorem Rd.none_ : Rd w lo hi size A 0 [] := ⟨by simp, fun h => absurd h (by omega)⟩
theorem Rd.keep (h : Rd w lo hi size A n xs) (hk : ∀ p : Addr, lo ≤ p.block → p.block < hi → w'.cell? p = w.cell? p) : Rd w' lo hi size A n xs :=
  ⟨h.1, fun hn => by
    obtain ⟨ad, e, hb, hb', hc⟩ := h.2 hn
    exact ⟨ad, e, hb, hb', fun j u hu => (hk _ (by rw [block_of_add]; exact hb) (by rw [block_of_add]; exact hb')).trans (hc j u hu)⟩⟩
theorem Rd.fr (h : Rd w lo hi size A n xs) (f : Fr B S w w') (hB : hi ≤ B) (hS : ∀ k, lo ≤ k → k < hi → ¬ S k) : Rd w' lo hi size A n xs :=
  h.keep fun p h1 h2 => f.cell (by omega) (hS _ h1 h2)
theorem Rd.wider (h : Rd w lo hi size A n xs) (hl : lo' ≤ lo) (hh : hi ≤ hi') : Rd w lo' hi' size A n xs :=
  ⟨h.1, fun hn => by
    obtain ⟨ad, e, hb, hb', hc⟩ := h.2 hn
    exact ⟨ad, e, by omega, by omega, hc⟩⟩
end
/-- What a row of the call's own reads as. -/
theorem Rd.of_own {w : World} {lo hi size n c : Nat} {e : TypeId} {A : Option Addr} {xs : List Value} (h : w.ownsRow lo e size (.slice A n c) n xs) (hhi : ∀ g, (Value.slice A n c).ownBlock = some g → g < hi) :
    Rd w lo hi size A n xs := by
  refine ⟨h.1, fun hn => ?_⟩
  rcases h.2 with ⟨_, h0⟩ | ⟨g, cap, cur, hv, hb, hh, _⟩
  · omega
  · have hA : A = some ⟨g, 0, none⟩ := by injection hv
    subst hA
    exact ⟨_, rfl, hb, hhi g rfl, h.cells (g := g) rfl⟩
/-! ### Append onto a row of the call's own -/

section
variable {P : Program} (w : World)
theorem run_append_of_nil (base : Nat) (t ty e : TypeId) (i : TypeInfo) (size : Nat) (ht : P.underlying t = some (.slice e)) (hi : P.info? e = some i)
    (v : Value) (n : Nat) (xs : List Value) (hown : w.ownsRow base e size v n xs) (c : Nat) : (Builtin.append_ #[t, t] ty #[v, .slice none 0 c]).run P w = .ok v w := by
  rcases hown.2 with ⟨rfl, rfl⟩ | ⟨g, cap, cur, rfl, _, _, hnc, _⟩
  · simp [Builtin.append_, run_underlying ht, sizeOf, typeInfo, hi, Builtin.lenOf, Builtin.firstCells]
  · simp [Builtin.append_, run_underlying ht, sizeOf, typeInfo, hi, Builtin.lenOf, Builtin.firstCells, hnc, storeCells]
theorem run_append_any (base : Nat) (t ty e : TypeId) (i : TypeInfo) (z : Value) (size bytes : Nat) (ht : P.underlying t = some (.slice e)) (hi : P.info? e = some i) (hz : i.zero = some z)
    (hsize : i.size = size) (hby : i.bytes = bytes) (hzs : z.cells.size = size) (hsz : 0 < size)
    (v : Value) (n : Nat) (xs : List Value) (hown : w.ownsRow base e size v n xs)
    (lo hi' : Nat) (A : Option Addr) (m c : Nat) (news : List Value) (hr : Rd w lo hi' size A m news) (h1 : ∀ u ∈ news, u.oneCell' = true)
    (h63 : n + m ≤ maxLen) (hbytes : (n + m) * bytes ≤ 140737488355328) (hbase : base ≤ w.heap.size) :
    ∃ v' w', (Builtin.append_ #[t, t] ty #[v, .slice A m c]).run P w = .ok v' w' ∧ w'.ownsRow base e size v' (n + m) (xs ++ news) ∧ w.grownBy w' v.ownBlock ∧
      (v'.ownBlock = v.ownBlock ∨ v'.ownBlock = some w.heap.size) := by
  rcases A with _ | ad
  · have hm : m = 0 := by
      rcases Nat.eq_zero_or_pos m with h0 | h0
      · exact h0
      · obtain ⟨ad, h, _⟩ := hr.2 h0
        cases h
    subst hm
    have hn : news = [] := List.eq_nil_of_length_eq_zero (by simpa using hr.1)
    subst hn
    exact ⟨v, w, run_append_of_nil w base t ty e i size ht hi v n xs hown c, by simpa using hown, World.grownBy.refl w _, .inl rfl⟩
  · have hcells : ∀ j u, news[j]? = some u → w.cell? (ad.add j) = some u := by
      intro j u hu
      rcases Nat.eq_zero_or_pos m with h0 | h0
      · subst h0
        have hn : news = [] := List.eq_nil_of_length_eq_zero (by simpa using hr.1)
        subst hn
        simp at hu
      · obtain ⟨ad', h, _, _, hc⟩ := hr.2 h0
        injection h with h
        subst h
        exact hc j u hu
    obtain ⟨v', w', hrun, h2, h3, _, h5⟩ := run_append_own_at (P := P) w base t ty e i z size bytes ht hi hz hsize hby hzs hsz v n xs hown ad m c news hr.1 hcells h1 h63 hbytes hbase
    exact ⟨v', w', hrun, h2, h3, h5⟩
theorem wp_append_any {o : Oper} {a : Act} {K : Act → World → Prop} {Q : Exit → Act → World → Prop} (s x : Operand) (t : TypeId)
    (ho : o.op = .call { callee := .builtin .append, args := #[s, x], argTypes := #[t, t] })
    (base : Nat) (e : TypeId) (i : TypeInfo) (z : Value) (size bytes : Nat) (ht : P.underlying t = some (.slice e)) (hi : P.info? e = some i) (hz : i.zero = some z)
    (hsize : i.size = size) (hby : i.bytes = bytes) (hzs : z.cells.size = size) (hsz : 0 < size)
    (v : Value) (n : Nat) (xs : List Value) (hs : a.eval s = v) (hown : w.ownsRow base e size v n xs)
    (lo hi' : Nat) (A : Option Addr) (m c : Nat) (news : List Value) (hx : a.eval x = .slice A m c) (hr : Rd w lo hi' size A m news) (h1 : ∀ u ∈ news, u.oneCell' = true)
    (h63 : n + m ≤ maxLen) (hbytes : (n + m) * bytes ≤ 140737488355328) (hbase : base ≤ w.heap.size)
    (h : ∀ v' w', w'.ownsRow base e size v' (n + m) (xs ++ news) → w.grownBy w' v.ownBlock → (v'.ownBlock = v.ownBlock ∨ v'.ownBlock = some w.heap.size) → K (a.put o.dst v') w') : o.wp P a w K Q := by
  obtain ⟨v', w', hrun, h2, h3, h4⟩ := run_append_any (P := P) w base t o.type e i z size bytes ht hi hz hsize hby hzs hsz v n xs hown lo hi' A m c news hr h1 h63 hbytes hbase
  unfold Oper.wp execOp
  simp only [ho, resolve, invoke, builtin, Sem.run_bind, Sem.run_pure, Result.andThen_ok, List.map_toArray, List.map_cons, List.map_nil, hs, hx, hrun]
  exact h v' w' h2 h3 h4
theorem wpList_append_any {ops : Array Oper} {rest : List Oper} {o : Oper} {a : Act} {Q : Exit → Act → World → Prop} (hgd : o.guard = none) (s x : Operand) (t : TypeId)
    (ho : o.op = .call { callee := .builtin .append, args := #[s, x], argTypes := #[t, t] })
    (base : Nat) (e : TypeId) (i : TypeInfo) (z : Value) (size bytes : Nat) (ht : P.underlying t = some (.slice e)) (hi : P.info? e = some i) (hz : i.zero = some z)
    (hsize : i.size = size) (hby : i.bytes = bytes) (hzs : z.cells.size = size) (hsz : 0 < size)
    (v : Value) (n : Nat) (xs : List Value) (hs : a.eval s = v) (hown : w.ownsRow base e size v n xs)
    (lo hi' : Nat) (A : Option Addr) (m c : Nat) (news : List Value) (hx : a.eval x = .slice A m c) (hr : Rd w lo hi' size A m news) (h1 : ∀ u ∈ news, u.oneCell' = true)
    (h63 : n + m ≤ maxLen) (hbytes : (n + m) * bytes ≤ 140737488355328) (hbase : base ≤ w.heap.size)
    (h : ∀ v' w', w'.ownsRow base e size v' (n + m) (xs ++ news) → w.grownBy w' v.ownBlock → (v'.ownBlock = v.ownBlock ∨ v'.ownBlock = some w.heap.size) → wpList P ops Q rest (a.put o.dst v') w') : wpList P ops Q (o :: rest) a w :=
  wpList_plain hgd fun _ hK => wp_append_any w s x t ho base e i z size bytes ht hi hz hsize hby hzs hsz v n xs hs hown lo hi' A m c news hx hr h1 h63 hbytes hbase fun v' w' h2 h3 h4 => hK _ _ (h v' w' h2 h3 h4)
end
/-! ### Commands and ledgers -/

structure Cmd where
  kind : Int
  idn : Int
  idb : Int
  ids : Int
  bucket : ByteArray
  key : ByteArray
  upn : Int
  upb : Int
  ups : Int
  pbn : Int
  pbb : Int
  pbs : Int
  psize : Int
  etag : ByteArray
  part : Int
  parts : List Int
  time : Int
  days : Int
/-- A command's eighteen cells; pv: the slice of its parts. -/
def Cmd.cells (c : Cmd) (pv : Value) : List Value :=
  [.int .i64 c.kind, .int .i64 c.idn, .int .i64 c.idb, .int .i64 c.ids, .string c.bucket, .string c.key, .int .i64 c.upn, .int .i64 c.upb, .int .i64 c.ups, .int .i64 c.pbn, .int .i64 c.pbb, .int .i64 c.pbs,
    .int .i64 c.psize, .string c.etag, .int .i64 c.part, pv, .int .i64 c.time, .int .i64 c.days]
theorem Cmd.cells_length (c : Cmd) (pv : Value) : (c.cells pv).length = 18 := rfl
def ints (xs : List Int) : List Value := xs.map (Value.int .i64)
def IntsAt (w : World) (lo hi : Nat) (v : Value) (xs : List Int) : Prop :=
  ∃ A c, v = .slice A xs.length c ∧ xs.length ≤ c ∧ c ≤ maxLen ∧ xs.length * 8 ≤ 140737488355328 ∧ Rd w lo hi 1 A xs.length (ints xs)
def CmdAt (w : World) (lo hi : Nat) (cs : List Value) (c : Cmd) : Prop := ∃ pv, cs = c.cells pv ∧ IntsAt w lo hi pv c.parts
/-- The rows of cells of a list of commands. -/
def RowsAt (w : World) (lo hi : Nat) (rows : List (List Value)) (l : List Cmd) : Prop :=
  rows.length = l.length ∧ ∀ (i : Nat) (r : List Value) (c : Cmd), rows[i]? = some r → l[i]? = some c → CmdAt w lo hi r c
def LedAt (w : World) (lo hi : Nat) (v : Value) (l : List Cmd) : Prop :=
  ∃ A c rows, v = .slice A l.length c ∧ l.length ≤ c ∧ c ≤ maxLen ∧ l.length * 184 ≤ 140737488355328 ∧ Rd w lo hi 18 A l.length rows.flatten ∧ RowsAt w lo hi rows l
/-- .. of the call's own memory: whole blocks, from lo to hi, not frozen. -/
def OwnRow (w : World) (lo hi : Nat) (e : TypeId) (size : Nat) (v : Value) (n : Nat) (xs : List Value) : Prop :=
  w.ownsRow lo e size v n xs ∧ ∀ g, v.ownBlock = some g → g < hi
def OwnInts (w : World) (lo hi : Nat) (v : Value) (xs : List Int) : Prop := OwnRow w lo hi 3 1 v xs.length (ints xs) ∧ xs.length * 8 ≤ 140737488355328
def OwnCmd (w : World) (lo hi : Nat) (cs : List Value) (c : Cmd) : Prop := ∃ pv, cs = c.cells pv ∧ OwnInts w lo hi pv c.parts
def OwnRows (w : World) (lo hi : Nat) (rows : List (List Value)) (l : List Cmd) : Prop :=
  rows.length = l.length ∧ ∀ (i : Nat) (r : List Value) (c : Cmd), rows[i]? = some r → l[i]? = some c → OwnCmd w lo hi r c
def OwnLed (w : World) (lo hi : Nat) (v : Value) (l : List Cmd) : Prop :=
  ∃ rows, OwnRow w lo hi 81 18 v l.length rows.flatten ∧ l.length * 184 ≤ 140737488355328 ∧ OwnRows w lo hi rows l
section
variable {w w' : World} {lo hi lo' hi' B size n : Nat} {S : Nat → Prop} {e : TypeId} {v : Value} {xs : List Value}
theorem IntsAt.fr {ys : List Int} (h : IntsAt w lo hi v ys) (f : Fr B S w w') (hB : hi ≤ B) (hS : ∀ k, lo ≤ k → k < hi → ¬ S k) : IntsAt w' lo hi v ys := by
  obtain ⟨A, c, h1, h2, h3, h4, h5⟩ := h
  exact ⟨A, c, h1, h2, h3, h4, h5.fr f hB hS⟩
theorem IntsAt.wider {ys : List Int} (h : IntsAt w lo hi v ys) (hl : lo' ≤ lo) (hh : hi ≤ hi') : IntsAt w lo' hi' v ys := by
  obtain ⟨A, c, h1, h2, h3, h4, h5⟩ := h
  exact ⟨A, c, h1, h2, h3, h4, h5.wider hl hh⟩
theorem CmdAt.fr {cs : List Value} {c : Cmd} (h : CmdAt w lo hi cs c) (f : Fr B S w w') (hB : hi ≤ B) (hS : ∀ k, lo ≤ k → k < hi → ¬ S k) : CmdAt w' lo hi cs c := by
  obtain ⟨pv, h1, h2⟩ := h
  exact ⟨pv, h1, h2.fr f hB hS⟩
theorem RowsAt.fr {rows : List (List Value)} {l : List Cmd} (h : RowsAt w lo hi rows l) (f : Fr B S w w') (hB : hi ≤ B) (hS : ∀ k, lo ≤ k → k < hi → ¬ S k) : RowsAt w' lo hi rows l :=
  ⟨h.1, fun i r c h1 h2 => (h.2 i r c h1 h2).fr f hB hS⟩
theorem LedAt.fr {l : List Cmd} (h : LedAt w lo hi v l) (f : Fr B S w w') (hB : hi ≤ B) (hS : ∀ k, lo ≤ k → k < hi → ¬ S k) : LedAt w' lo hi v l := by
  obtain ⟨A, c, rows, h1, h2, h3, h4, h5, h6⟩ := h
  exact ⟨A, c, rows, h1, h2, h3, h4, h5.fr f hB hS, h6.fr f hB hS⟩
theorem LedAt.wider {l : List Cmd} (h : LedAt w lo hi v l) (hl : lo' ≤ lo) (hh : hi ≤ hi') : LedAt w lo' hi' v l := by
  obtain ⟨A, c, rows, h1, h2, h3, h4, h5, h6⟩ := h
  exact ⟨A, c, rows, h1, h2, h3, h4, h5.wider hl hh, h6.1, fun i r c g1 g2 => by
    obtain ⟨pv, e1, e2⟩ := h6.2 i r c g1 g2
    exact ⟨pv, e1, e2.wider hl hh⟩⟩
theorem OwnRow.fr (h : OwnRow w lo hi e size v n xs) (f : Fr B S w w') (hB : hi ≤ B) (hS : ∀ k, lo ≤ k → k < hi → ¬ S k) : OwnRow w' lo hi e size v n xs := by
  refine ⟨⟨h.1.1, ?_⟩, h.2⟩
  rcases h.1.2 with h2 | ⟨g, cap, cur, rfl, hb, hh, hr⟩
  · exact .inl h2
  · have hg := h.2 g rfl
    exact .inr ⟨g, cap, cur, rfl, hb, (f.block g (by omega) (hS g hb hg)).trans hh, hr⟩
theorem OwnRow.wider (h : OwnRow w lo hi e size v n xs) (hl : lo' ≤ lo) (hh : hi ≤ hi') : OwnRow w lo' hi' e size v n xs := by
  refine ⟨⟨h.1.1, ?_⟩, fun g hg => by have := h.2 g hg; omega⟩
  rcases h.1.2 with h2 | ⟨g, cap, cur, rfl, hb, hr⟩
  · exact .inl h2
  · exact .inr ⟨g, cap, cur, rfl, by omega, hr⟩
theorem OwnInts.fr {ys : List Int} (h : OwnInts w lo hi v ys) (f : Fr B S w w') (hB : hi ≤ B) (hS : ∀ k, lo ≤ k → k < hi → ¬ S k) : OwnInts w' lo hi v ys := ⟨h.1.fr f hB hS, h.2⟩
theorem OwnInts.wider {ys : List Int} (h : OwnInts w lo hi v ys) (hl : lo' ≤ lo) (hh : hi ≤ hi') : OwnInts w lo' hi' v ys := ⟨h.1.wider hl hh, h.2⟩
theorem OwnCmd.fr {cs : List Value} {c : Cmd} (h : OwnCmd w lo hi cs c) (f : Fr B S w w') (hB : hi ≤ B) (hS : ∀ k, lo ≤ k → k < hi → ¬ S k) : OwnCmd w' lo hi cs c := by
  obtain ⟨pv, h1, h2⟩ := h
  exact ⟨pv, h1, h2.fr f hB hS⟩
theorem OwnCmd.wider {cs : List Value} {c : Cmd} (h : OwnCmd w lo hi cs c) (hl : lo' ≤ lo) (hh : hi ≤ hi') : OwnCmd w lo' hi' cs c := by
  obtain ⟨pv, h1, h2⟩ := h
  exact ⟨pv, h1, h2.wider hl hh⟩
theorem OwnRows.fr {rows : List (List Value)} {l : List Cmd} (h : OwnRows w lo hi rows l) (f : Fr B S w w') (hB : hi ≤ B) (hS : ∀ k, lo ≤ k → k < hi → ¬ S k) : OwnRows w' lo hi rows l :=
  ⟨h.1, fun i r c h1 h2 => (h.2 i r c h1 h2).fr f hB hS⟩
theorem OwnRows.wider {rows : List (List Value)} {l : List Cmd} (h : OwnRows w lo hi rows l) (hl : lo' ≤ lo) (hh : hi ≤ hi') : OwnRows w lo' hi' rows l :=
  ⟨h.1, fun i r c h1 h2 => (h.2 i r c h1 h2).wider hl hh⟩
theorem OwnLed.fr {l : List Cmd} (h : OwnLed w lo hi v l) (f : Fr B S w w') (hB : hi ≤ B) (hS : ∀ k, lo ≤ k → k < hi → ¬ S k) : OwnLed w' lo hi v l := by
  obtain ⟨rows, h1, h2, h3⟩ := h
  exact ⟨rows, h1.fr f hB hS, h2, h3.fr f hB hS⟩
theorem OwnLed.wider {l : List Cmd} (h : OwnLed w lo hi v l) (hl : lo' ≤ lo) (hh : hi ≤ hi') : OwnLed w lo' hi' v l := by
  obtain ⟨rows, h1, h2, h3⟩ := h
  exact ⟨rows, h1.wider hl hh, h2, h3.wider hl hh⟩
theorem OwnLed.nil_ (w : World) (lo hi : Nat) : OwnLed w lo hi (.slice none 0 0) [] :=
  ⟨[], ⟨World.ownsRow_nil _ _ _ _, fun g hg => by simp [Value.ownBlock] at hg⟩, by simp, rfl, fun i r c h _ => by simp at h⟩
/-- What is owned is a slice whose length is within its capacity. -/
theorem OwnRow.form (h : OwnRow w lo hi e size v n xs) : ∃ A c, v = .slice A n c ∧ n ≤ c ∧ c ≤ maxLen ∧ (A = none → n = 0 ∧ c = 0) := by
  rcases h.1.2 with ⟨rfl, rfl⟩ | ⟨g, cap, cur, rfl, _, _, h1, h2, _⟩
  · exact ⟨none, 0, rfl, Nat.le_refl _, by simp [maxLen], fun _ => ⟨rfl, rfl⟩⟩
  · exact ⟨_, _, rfl, h1, h2, fun h => by cases h⟩
theorem OwnInts.at_ {ys : List Int} (h : OwnInts w lo hi v ys) : IntsAt w lo hi v ys := by
  obtain ⟨A, c, rfl, h1, h2, _⟩ := h.1.form
  exact ⟨A, c, rfl, h1, h2, h.2, Rd.of_own h.1.1 h.1.2⟩
theorem OwnCmd.at_ {cs : List Value} {c : Cmd} (h : OwnCmd w lo hi cs c) : CmdAt w lo hi cs c := by
  obtain ⟨pv, h1, h2⟩ := h
  exact ⟨pv, h1, h2.at_⟩
theorem OwnLed.at_ {l : List Cmd} (h : OwnLed w lo hi v l) : LedAt w lo hi v l := by
  obtain ⟨rows, h1, h2, h3⟩ := h
  obtain ⟨A, c, rfl, g1, g2, _⟩ := h1.form
  exact ⟨A, c, rows, rfl, g1, g2, h2, Rd.of_own h1.1 h1.2, h3.1, fun i r c e1 e2 => (h3.2 i r c e1 e2).at_⟩
end
theorem ints_getElem? (xs : List Int) (i : Nat) : (ints xs)[i]? = (xs[i]?).map (Value.int .i64) := by simp [ints]
theorem ints_length (xs : List Int) : (ints xs).length = xs.length := by simp [ints]
theorem ints_oneCell (xs : List Int) : ∀ u ∈ ints xs, u.oneCell' = true := by
  intro u hu
  simp only [ints, List.mem_map] at hu
  obtain ⟨x, _, rfl⟩ := hu
  rfl
/-- The cells of row i, in the rows laid one behind the other. -/
theorem flatten_get (rows : List (List Value)) (hl : ∀ r ∈ rows, r.length = 18) (i j : Nat) (r : List Value) (hr : rows[i]? = some r) (hj : j < 18) : rows.flatten[i * 18 + j]? = r[j]? := by
  induction rows generalizing i with
  | nil => simp at hr
  | cons r0 rows ih =>
    have h0 : r0.length = 18 := hl r0 (by simp)
    cases i with
    | zero =>
      simp at hr
      subst hr
      simp only [List.flatten_cons, Nat.zero_mul, Nat.zero_add]
      rw [List.getElem?_append_left (by omega)]
    | succ i =>
      simp at hr
      have := ih (fun r h => hl r (by simp [h])) i hr
      simp only [List.flatten_cons]
      rw [List.getElem?_append_right (by omega), ← this]
      congr 1
      omega
theorem RowsAt.len18 {w : World} {lo hi : Nat} {rows : List (List Value)} {l : List Cmd} (h : RowsAt w lo hi rows l) : ∀ r ∈ rows, r.length = 18 := by
  intro r hr
  obtain ⟨i, hi', rfl⟩ := List.getElem_of_mem hr
  have hl : i < l.length := by have := h.1; omega
  obtain ⟨pv, e, _⟩ := h.2 i rows[i] l[i] (List.getElem?_eq_getElem hi') (List.getElem?_eq_getElem hl)
  rw [e]; rfl
/-- Element i of a ledger: its cells, one by one, and what they are. -/
theorem LedAt.elem {w : World} {lo hi : Nat} {v : Value} {l : List Cmd} (h : LedAt w lo hi v l) {i : Nat} {c : Cmd} (hc : l[i]? = some c) :
    ∃ ad cap pv, v = .slice (some ad) l.length cap ∧ lo ≤ ad.block ∧ ad.block < hi ∧ (∀ j, j < 18 → w.cell? (ad.add (i * 18 + j)) = (c.cells pv)[j]?) ∧ IntsAt w lo hi pv c.parts := by
  obtain ⟨A, cap, rows, rfl, _, _, _, hr, hrows⟩ := h
  obtain ⟨hi', he⟩ := List.getElem?_eq_some_iff.1 hc
  obtain ⟨ad, rfl, h1, h2, h3⟩ := hr.2 (by omega)
  have hlen := hrows.1
  have hri : rows[i]? = some rows[i] := List.getElem?_eq_getElem (by omega)
  obtain ⟨pv, e1, e2⟩ := hrows.2 i _ c hri hc
  refine ⟨ad, cap, pv, rfl, h1, h2, fun j hj => ?_, e2⟩
  have hf := flatten_get rows hrows.len18 i j _ hri hj
  have hj' : j < (c.cells pv).length := by rw [Cmd.cells_length]; exact hj
  rw [e1, List.getElem?_eq_getElem hj'] at hf
  rw [h3 _ _ hf, List.getElem?_eq_getElem hj']
theorem LedAt.form {w : World} {lo hi : Nat} {v : Value} {l : List Cmd} (h : LedAt w lo hi v l) : ∃ A c, v = .slice A l.length c ∧ l.length ≤ c ∧ c ≤ maxLen ∧ l.length * 184 ≤ 140737488355328 := by
  obtain ⟨A, c, rows, h1, h2, h3, h4, _⟩ := h
  exact ⟨A, c, h1, h2, h3, h4⟩
end Go.Proofs.YtnlncfjibbdimaaDoor

namespace Go.Proofs.YtnlncfjibbdimaaDoor
open Go.RowKit
set_option linter.unusedSimpArgs false
set_option linter.unusedVariables false
abbrev errv (a : Addr) : Value := .iface 251 (.pointer (some a))
/-- Is a ballot legal? -/
def lg (r n : Int) : Bool := decide (1 ≤ r ∧ r ≤ 1099511627776 ∧ 0 ≤ n ∧ n < 16)
set_option maxHeartbeats 400000 in
theorem rlegal_any (r n : Int) (w : World) :
    Calls Tryd.prog 57 #[.agg #[.int .i64 r, .int .i64 n]] w fun e w' => e = .returned (.bool (lg r n)) ∧ Below w.heap.size w w' := by
  go_enter Tryd.func57, Tryd.ntmps57
  go_wp2
  all_goals
    go_ret
    refine ⟨ret_bool ?_, (Below.refl _ _).alloc (by simp) _⟩
    rw [Bool.eq_iff_iff]
    simp only [lg, Bool.or_eq_true, Bool.and_eq_true, decide_eq_true_eq, true_iff, Bool.false_eq_true, false_iff]
    omega
/-! ### Acceptors -/

structure Acc where
  node : Int
  pr : Int
  pn : Int
  ar : Int
  an : Int
  led : List Cmd
  claimed : Int
def Acc.cells (s : Acc) (v : Value) : Array Value := #[.int .i64 s.node, .int .i64 s.pr, .int .i64 s.pn, .int .i64 s.ar, .int .i64 s.an, v, .int .i64 s.claimed]
def Acc.new (n : Int) : Acc := ⟨n, 0, 0, 0, 0, [], 0⟩
end Go.Proofs.YtnlncfjibbdimaaDoor

namespace Go.Proofs.YtnlncfjibbdimaaDoor
open Go.RowKit
set_option linter.unusedSimpArgs false
set_option linter.unusedVariables false
theorem err_info : ∃ i j, Tryd.prog.info? 251 = some i ∧ i.comparable = true ∧ Tryd.prog.info? 266 = some j ∧ j.size ≠ 0 := by
  have h1 : (Tryd.prog.info? 251).map (·.comparable) = some true := by kernel_rfl
  have h2 : (Tryd.prog.info? 266).map (·.size) = some 1 := by kernel_rfl
  cases hi : Tryd.prog.info? 251 with
  | none => rw [hi] at h1; simp at h1
  | some i =>
    cases hj : Tryd.prog.info? 266 with
    | none => rw [hj] at h2; simp at h2
    | some j =>
      rw [hi] at h1
      rw [hj] at h2
      simp at h1 h2
      exact ⟨i, j, rfl, h1, rfl, by omega⟩
theorem errEq_same (a : Addr) (w : World) : (binOp .eql 34 (errv a) (errv a)).run Tryd.prog w = .ok (.bool true) w := by
  obtain ⟨i, j, h1, h2, h3, _⟩ := err_info
  exact run_eql_iface_ptr_same w a Tryd.underlying34 Tryd.underlying251 h1 h2 h3
/-- Known blocks of two unlike errors. -/
def ErrBlk (w : World) (a : Addr) : Prop := ∃ c t, w.heap[a.block]? = some (.cells c t (0, 0))
theorem ErrBlk.fr {w w' : World} {a : Addr} {B : Nat} {S : Nat → Prop} (h : ErrBlk w a) (f : Fr B S w w') (hb : a.block < B) (hs : ¬ S a.block) : ErrBlk w' a := by
  obtain ⟨c, t, h⟩ := h
  exact ⟨c, t, (f.block _ hb hs).trans h⟩
/-- The sentinels of the listed globals: A g is where the error of global g lies; all of it below block B. -/
structure Errs (w : World) (B : Nat) (A : Nat → Addr) (G : List Nat) : Prop where
  lt : ∀ g ∈ G, g < B ∧ (A g).block < B
  cell : ∀ g ∈ G, w.cell? ⟨g, 0, none⟩ = some (errv (A g))
  blk : ∀ g ∈ G, ErrBlk w (A g)
  inj : ∀ g ∈ G, ∀ g' ∈ G, A g = A g' → g = g'
theorem Errs.fr {w w' : World} {B B' : Nat} {S : Nat → Prop} {A : Nat → Addr} {G : List Nat} (h : Errs w B A G) (f : Fr B' S w w') (hB : B ≤ B') (hS : ∀ k, k < B → ¬ S k) : Errs w' B A G :=
  ⟨h.lt, fun g hg => (f.cell (p := ⟨g, 0, none⟩) (by have := (h.lt g hg).1; simp; omega) (hS _ (h.lt g hg).1)).trans (h.cell g hg),
   fun g hg => (h.blk g hg).fr f (by have := (h.lt g hg).2; omega) (hS _ (h.lt g hg).2), h.inj⟩
theorem Errs.sub {w : World} {B : Nat} {A : Nat → Addr} {G G' : List Nat} (h : Errs w B A G) (hs : ∀ g ∈ G', g ∈ G) : Errs w B A G' :=
  ⟨fun g hg => h.lt g (hs g hg), fun g hg => h.cell g (hs g hg), fun g hg => h.blk g (hs g hg), fun g hg g' hg' => h.inj g (hs g hg) g' (hs g' hg')⟩
end Go.Proofs.YtnlncfjibbdimaaDoor

namespace Go.Proofs.YtnlncfjibbdimaaDoor
open Go.ChangeShapes Go.WideShapes Go.ChangeAt Go.RowKit
set_option linter.unusedSimpArgs false
set_option linter.unusedVariables false
theorem own : ownKnob Tryd.prog.godebug = none := by kernel_rfl
theorem laidOut : laidOutB Tryd.prog = true := by kernel_rfl
/-! ### The sentinels -/

/-- A listed sentinel: the variable's name, its number, its text. -/
def sentD (x : String × Nat × List UInt8) : String × DataW Unit := (x.1, .iface "*errors.errorString" (.ptr (.agg [.lit (.string x.2.2)])))
def SentOk (x : String × Nat × List UInt8) : Prop := Tryd.prog.globalNamed x.1 = some x.2.1 ∧ (Tryd.prog.globals[x.2.1]?).map (·.type) = some 34
theorem cells266 : Tryd.prog.cellsOf 266 = 1 := by kernel_rfl
theorem cells9 : Tryd.prog.cellsOf 9 = 1 := by kernel_rfl
theorem star : "*" ++ "errors.errorString" = "*errors.errorString" := by decide
theorem row251 (u : TypeId) (h : Tryd.prog.typeName? 3 u = some "*errors.errorString") : u = 251 :=
  typeName_ptr_named (nm := "errors.errorString") (by rw [star]; kernel_rfl) (by kernel_rfl) (by decide) u (by rw [star]; exact h)
theorem mem_row_zero (a : Addr) : MemPlace.cell a.block a.off ∈ MemPlace.row a 1 := by simp [MemPlace.row]
set_option maxRecDepth 100000 in
theorem sent_cell {W : World} {f : Nat} {cs : List Value} {text : List UInt8} {p : List MemPlace} (hd : DataW.trod (fun _ => ()) Tryd.prog W 0 (fun _ => true) false f 34 cs = some (.iface "*errors.errorString" (.ptr (.agg [.lit (.string text)])), p))
    (hok : ∀ u v, cs = [.iface u v] → Value.okWide Tryd.prog W .any 0 u v) : ∃ a s, cs = [.iface 251 (.pointer (some a))] ∧ W.cell? a = some (.string s) ∧ s.data.toList = text ∧ s.size ≤ maxLen ∧ p = MemPlace.row a 1 :=
  errorString_of_trod (P := Tryd.prog) (W := W) (enc := fun _ => ()) (base := 0) (sp := fun _ => true) (fuel := f) (ti := 34) (tp := 251) (te := 266) (ts := 9) (nm := "*errors.errorString") (cs := cs) (text := text) (p := p) Tryd.underlying34 row251 Tryd.underlying251 Tryd.underlying266 rfl rfl Tryd.underlying9 cells266 cells9 hd hok
set_option maxRecDepth 100000 in
theorem errs_of_vars {W : World} : ∀ (L : List (String × Nat × List UInt8)) (ps : List MemPlace), DataW.LaidVars Tryd.prog W (L.map sentD) ps → (∀ x ∈ L, SentOk x) → ps.Nodup →
    (∀ b off, MemPlace.cell b off ∈ ps → (∃ c t, W.heap[b]? = some (.cells c t (0, 0))) ∧ ∀ u v, W.cell? ⟨b, off, none⟩ = some (.iface u v) → Value.okWide Tryd.prog W .any 0 u v) →
    ∃ A : Nat → Addr, (∀ x ∈ L, W.cell? ⟨x.2.1, 0, none⟩ = some (errv (A x.2.1)) ∧ MemPlace.cell x.2.1 0 ∈ ps ∧ MemPlace.cell (A x.2.1).block (A x.2.1).off ∈ ps ∧ (A x.2.1).spot = none) ∧
      (∀ x ∈ L, ∀ y ∈ L, A x.2.1 = A y.2.1 → x.2.1 = y.2.1)
  | [], _, _, _, _, _ => ⟨fun _ => ⟨0, 0, none⟩, by simp, by simp⟩
  | (n, g, text) :: L, ps, h, hok, hnd, hr => by
    have h' : ∃ g' t cs fuel p q, Tryd.prog.globalNamed n = some g' ∧ (Tryd.prog.globals[g']?).map (·.type) = some t ∧ W.var? Tryd.prog n = some cs ∧
      DataW.trod (fun _ => ()) Tryd.prog W 0 (fun _ => true) false fuel t cs.toList = some (.iface "*errors.errorString" (.ptr (.agg [.lit (.string text)])), p) ∧
      DataW.LaidVars Tryd.prog W (L.map sentD) q ∧ ps = MemPlace.row ⟨g', 0, none⟩ cs.size ++ p ++ q := h
    clear h
    obtain ⟨g', t, cs, f, p, q, hg, ht, hv, hd, hrest, rfl⟩ := h'
    obtain ⟨hg0, ht0⟩ := hok (n, g, text) (by simp)
    have hokr : ∀ x ∈ L, SentOk x := fun x hx => hok x (by simp [hx])
    obtain rfl := Option.some.inj (hg0.symm.trans hg)
    obtain rfl := Option.some.inj (ht0.symm.trans ht)
    obtain ⟨a, s, hl, hc, hs, _, rfl⟩ := sent_cell hd (fun u v e => by
      have hz : cs.size = 1 := by rw [← Array.length_toList, e]; rfl
      have hc0 : cs[0]? = some (.iface u v) := by rw [← Array.getElem?_toList, e]; rfl
      refine (hr g 0 (List.mem_append_left _ (List.mem_append_left _ ?_))).2 u v ((World.var?_cell hg hv 0).trans hc0)
      rw [hz]; exact mem_row_zero ⟨g, 0, none⟩)
    have hcs : cs = #[errv a] := by rw [← Array.toArray_toList (xs := cs), hl]
    subst hcs
    have hcell : W.cell? ⟨g, 0, none⟩ = some (errv a) := World.var?_cell hg hv 0
    have hsp : a.spot = none := World.cell?_spot hc
    have hnq : q.Nodup := by
      rw [List.nodup_append] at hnd
      exact hnd.2.1
    obtain ⟨A, h1, h2⟩ := errs_of_vars L q hrest hokr hnq (fun b off hb => hr b off (by simp [hb]))
    have hgq : MemPlace.cell g 0 ∉ q := fun hm => by
      rw [List.nodup_append] at hnd
      exact hnd.2.2 _ (by simp [MemPlace.row]) _ hm rfl
    have haq : MemPlace.cell a.block a.off ∉ q := fun hm => by
      rw [List.nodup_append] at hnd
      exact hnd.2.2 _ (by simp [MemPlace.row]) _ hm rfl
    have hne : ∀ x ∈ L, x.2.1 ≠ g := fun x hx e => hgq (by rw [← e]; exact (h1 x hx).2.1)
    refine ⟨fun k => if k = g then a else A k, ?_, ?_⟩
    · intro x hx
      rcases List.mem_cons.1 hx with rfl | hx
      · simp only [if_true]
        exact ⟨hcell, by simp [MemPlace.row], by simp [MemPlace.row], hsp⟩
      · simp only [if_neg (hne x hx)]
        obtain ⟨k1, k2, k3, k4⟩ := h1 x hx
        exact ⟨k1, by simp [k2], by simp [k3], k4⟩
    · intro x hx y hy e
      rcases List.mem_cons.1 hx with rfl | hx <;> rcases List.mem_cons.1 hy with rfl | hy
      · rfl
      · simp only [if_true, if_neg (hne y hy)] at e
        exact absurd (h1 y hy).2.2.1 (by rw [← e]; exact haq)
      · simp only [if_true, if_neg (hne x hx)] at e
        exact absurd (h1 x hx).2.2.1 (by rw [e]; exact haq)
      · simp only [if_neg (hne x hx), if_neg (hne y hy)] at e
        exact h2 x hx y hy e
theorem errs_of_laid {W : World} {laid : List (String × DataW Unit)} (L : List (String × Nat × List UInt8)) (hl : laid = L.map sentD) (hok : (∀ x ∈ L, SentOk x)) (hp : (laid.all fun x => x.2.handleName?.isNone) = true)
    (h : laidMetH Tryd.prog laid W) : ∃ A, Errs W W.heap.size A (L.map (·.2.1)) := by
  have hf : laid.filter (fun x => x.2.handleName?.isSome) = [] := by
    rw [List.filter_eq_nil_iff]
    intro x hx
    have := List.all_eq_true.1 hp x hx
    simpa using this
  unfold laidMetH at h
  rw [hf] at h
  subst hl
  obtain ⟨ps, h1, h2, h3⟩ := h
  obtain ⟨A, k1, k2⟩ := errs_of_vars L ps h1 hok h2 h3
  refine ⟨A, ?_, ?_, ?_, ?_⟩
  · intro g hg
    obtain ⟨x, hx, rfl⟩ := List.mem_map.1 hg
    obtain ⟨m1, m2, m3, _⟩ := k1 x hx
    obtain ⟨c, t, hb⟩ := (h3 _ _ m3).1
    exact ⟨World.block_lt_of_cell? W _ m1, (Array.getElem?_eq_some_iff.1 hb).1⟩
  · intro g hg
    obtain ⟨x, hx, rfl⟩ := List.mem_map.1 hg
    exact (k1 x hx).1
  · intro g hg
    obtain ⟨x, hx, rfl⟩ := List.mem_map.1 hg
    exact (h3 _ _ (k1 x hx).2.2.1).1
  · intro g hg g' hg' e
    obtain ⟨x, hx, rfl⟩ := List.mem_map.1 hg
    obtain ⟨y, hy, rfl⟩ := List.mem_map.1 hg'
    exact k2 x hx y hy e
end Go.Proofs.YtnlncfjibbdimaaDoor

namespace Go.Proofs.YtnlncfjibbdimaaDoor
open Go.ChangeShapes Go.WideShapes Go.ChangeAt Go.RowKit
set_option linter.unusedSimpArgs false
set_option linter.unusedVariables false
/-- All arguments read as they did, where nothing below the heap's old size has turned. -/
theorem below_trodAll {H : Type} {enc : TypeId × Value → H} {W W' : World} (hb : Below W.heap.size W W') : ∀ (ts : List TypeId) (vs : List Value) (ds : List (DataW H)) (ps : List MemPlace),
    (∀ t ∈ ts, Tryd.prog.readableRec t = true ∧ t < Tryd.prog.types.size) → DataW.TrodAll enc Tryd.prog W 0 (fun _ => true) true ts vs ds ps → (∀ x ∈ ps, x.block < W.heap.size) →
    DataW.TrodAll enc Tryd.prog W' 0 (fun b => decide (b < W.heap.size)) true ts vs ds ps
  | [], [], [], ps, _, h, _ => h
  | t :: ts, v :: vs, d :: ds, ps, ht, h, hlt => by
    obtain ⟨p, q, h1, h2, rfl⟩ := h
    exact ⟨p, q, Below.trod laidOut (ht t (by simp)).1 (ht t (by simp)).2 h1 hb (fun x hx => hlt x (by simp [hx])),
      below_trodAll hb ts vs ds q (fun t' h' => ht t' (by simp [h'])) h2 (fun x hx => hlt x (by simp [hx])), rfl⟩
  | [], [], _ :: _, _, _, h, _ => h.elim
  | [], _ :: _, _, _, _, h, _ => h.elim
  | _ :: _, [], _, _, _, h, _ => h.elim
  | _ :: _, _ :: _, [], _, _, h, _ => h.elim
/-- What a law's walk is told, and what it is to show. -/
def LawWalk (F : FuncId) (fn : Func) (G : List Nat) : Prop :=
  ∀ (H : Type) (enc : TypeId × Value → H) (W : World) (base : Nat) (args : Array Value) (ds : List (DataW H)) (p : List MemPlace) (A : Nat → Addr),
    DataW.TrodAll enc Tryd.prog W 0 (fun _ => true) true fn.params.toList args.toList ds p →
    (∀ (j : Nat) t v, fn.params[j]? = some t → args[j]? = some v → Value.okWide Tryd.prog W .any base t v) →
    (DataW.weightsEach Tryd.prog fn.params.toList ds).all (· ≤ reachBytes) = true →
    (∀ x ∈ p, x.block < W.heap.size) → Errs W W.heap.size A G →
    Calls Tryd.prog F args W fun e W' => e = .returned (.bool true) ∧ Below W.heap.size W W'
set_option maxRecDepth 100000 in
theorem law_lifted (F : FuncId) (fn : Func) (hF : Tryd.prog.funcs[F]? = some fn) (hres : fn.resultTypes = #[4])
    (hread : ∀ t ∈ fn.params.toList, Tryd.prog.readableRec t = true ∧ t < Tryd.prog.types.size) (noInit : Tryd.prog.inits.idxOf? F = none)
    (s : ChangeSpec) (hv : s.vars = []) (hfn : ∀ (H : Type) (ts : List TypeId) (vs : List Value) (enc : TypeId × Value → H) (W : World) (ds : List (DataW H)) (p : List MemPlace), DataW.TrodAll enc Tryd.prog W 0 (fun _ => true) true fn.params.toList vs ds p → s.fn H ds = { results := [.lit (.bool true)], args := ds })
    (laid : List (String × DataW Unit)) (L : List (String × Nat × List UInt8)) (hl : laid = L.map sentD) (hok : ∀ x ∈ L, SentOk x) (hp : (laid.all fun x => x.2.handleName?.isNone) = true)
    (walk : LawWalk F fn (L.map (·.2.1))) (os : Os) (started : os.Started) (H : Type) (enc : TypeId × Value → H)
    (witness : ∃ (w : World) (tape : Tape) (i : Input), w.os = os ∧ (w.forCall tape i).Shaped Tryd.checked.prog ∧ i.vars = [] ∧ Input.okWide Tryd.checked.prog (w.forCall tape i) .any w.heap.size F i ∧
      ((s.pre enc Tryd.checked.prog fn [] false (w.forCall tape i).memory i.args ∧ laidMetH Tryd.prog laid (w.forCall tape i).memory) ∧ sizedMet enc Tryd.checked.prog fn (OpenSpec.ofChange s) false (w.forCall tape i).memory i.args) ∧ ({} : Assume).holds Tryd.checked.prog (lone (Frame.enter Tryd.checked.prog F i.args .normal) [] (w.forCall tape i))) :
    ReturnsInHanded {} Tryd.checked os F .any (fun w args => (s.pre enc Tryd.prog fn [] false w args ∧ laidMetH Tryd.prog laid w) ∧ sizedMet enc Tryd.prog fn (OpenSpec.ofChange s) false w args)
      (s.post enc Tryd.prog fn false true false false) := by
  refine returnsInHanded_of_change_and (C := Tryd.checked) (X := fun w _ => laidMetH Tryd.prog laid w) (fun _ _ _ hh h => h.of_heap hh) own started noInit hF witness ?_
  intro W base args ds gs before hval0 hW _ hsz hL _
  obtain ⟨A, hE⟩ := errs_of_laid L hl hok hp hL
  have hW' := hW
  have hlt := fun x hx => hW.lt x hx
  obtain ⟨p, q, hA, hV, rfl, hfz, hnd⟩ := hW
  have hV0 := hV
  rw [hv] at hV0
  obtain ⟨rfl, rfl⟩ := trodVars_none hV0
  have hvt : s.plain.varTypes Tryd.prog = [] := by
    unfold DataSpec.varTypes
    rw [show s.plain.vars = [] from hv]
    rfl
  have hsz' : (DataW.weightsEach Tryd.prog fn.params.toList ds).all (· ≤ reachBytes) = true := by
    have h := hsz
    rw [show s.plain.varTypes Tryd.checked.prog = [] from hvt, List.append_nil, List.append_nil] at h
    exact h
  have hlt' : ∀ x ∈ p, x.block < W.heap.size := fun x hx => hlt x (by simp [hx])
  refine (walk H enc W base args ds p A hA hval0 hsz' hlt' hE).mono fun e W' ⟨he, bel⟩ => ?_
  subst he
  have hs := hfn H fn.params.toList args.toList enc W ds p hA
  have hs' : s.fn H (ds ++ []) = { results := [.lit (.bool true)], args := ds } := by rw [List.append_nil]; exact hs
  refine ⟨_, rfl, ds, [], p ++ [], [], p, [], hW', ?_, ?_, ?_, bel.frame _, fun h => by cases h⟩
  · rw [hs', hres]
    exact trodAll_mk1 (shut_bool Tryd.underlying4 true)
  · rw [hs']
    exact below_trodAll bel _ _ _ _ hread hA hlt'
  · rw [hs', hv]
    rfl
end Go.Proofs.YtnlncfjibbdimaaDoor

namespace Go.Proofs.YtnlncfjibbdimaaDoor
open Go.ChangeShapes Go.WideShapes Go.ChangeAt Go.RowKit Go.Deep
set_option linter.unusedSimpArgs false
set_option linter.unusedVariables false
def I64 (n : Int) : Prop := -9223372036854775808 ≤ n ∧ n ≤ 9223372036854775807
section
variable {H : Type} {enc : TypeId × Value → H} {w : World} {base : Nat} {spare : Nat → Bool} {held : Bool} {fuel : Nat} {cs : List Value} {x : DataW H × List MemPlace}
theorem trod_i64 (h : DataW.trod enc Tryd.prog w base spare held fuel 3 cs = some x) : ∃ n, cs = [.int .i64 n] ∧ I64 n := by
  obtain ⟨n, h1, _, h2⟩ := DataW.trod_int Tryd.underlying3 h
  exact ⟨n, h1, bounds_i64 h2⟩
/-- A struct's field reads, from its own cells. -/
theorem trod_field {t : TypeId} {fs : Array Field} (ht : Tryd.prog.underlying t = some (.struct fs)) (h : DataW.trod enc Tryd.prog w base spare held fuel t cs = some x) (i : Nat) (f : Field) (hi : fs[i]? = some f) :
    ∃ n y, DataW.trod enc Tryd.prog w base spare held n f.type ((cs.drop f.offset).take (Tryd.prog.cellsOf f.type)) = some y := by
  obtain ⟨xs, n, _, _, hlen, hxs, hf⟩ := DataW.trod_struct ht h
  have h0 := hf i f hi
  have hl : i < xs.length := by rw [hxs]; exact (Array.getElem?_eq_some_iff.1 hi).1
  rw [List.getElem?_eq_getElem hl] at h0
  exact ⟨n, _, h0⟩
theorem trod_len {t : TypeId} {fs : Array Field} (ht : Tryd.prog.underlying t = some (.struct fs)) (h : DataW.trod enc Tryd.prog w base spare held fuel t cs = some x) : cs.length = Tryd.prog.cellsOf t := by
  obtain ⟨xs, n, _, _, hlen, _⟩ := DataW.trod_struct ht h
  exact hlen
theorem cellsOf3 : Tryd.prog.cellsOf 3 = 1 := by kernel_rfl
theorem cellsOf23 : Tryd.prog.cellsOf 23 = 2 := by kernel_rfl
theorem list2 {α : Type} {l : List α} (h : l.length = 2) : ∃ a b, l = [a, b] := by
  match l, h with
  | [a, b], _ => exact ⟨a, b, rfl⟩
theorem trod_bal (h : DataW.trod enc Tryd.prog w base spare held fuel 23 cs = some x) : ∃ r n, cs = [.int .i64 r, .int .i64 n] ∧ I64 r ∧ I64 n := by
  have hlen := trod_len Tryd.underlying23 h
  obtain ⟨_, _, h0⟩ := trod_field Tryd.underlying23 h 0 _ rfl
  obtain ⟨_, _, h1⟩ := trod_field Tryd.underlying23 h 1 _ rfl
  rw [cellsOf23] at hlen
  obtain ⟨r, e0, b0⟩ := trod_i64 h0
  obtain ⟨k, e1, b1⟩ := trod_i64 h1
  clear h h0 h1
  obtain ⟨c0, c1, rfl⟩ := list2 hlen
  simp [cellsOf3] at e0 e1
  exact ⟨r, k, by rw [e0, e1], b0, b1⟩
end
end Go.Proofs.YtnlncfjibbdimaaDoor

namespace Go.Proofs.YtnlncfjibbdimaaDoor
open Go.ChangeShapes Go.WideShapes Go.ChangeAt Go.RowKit Go.Deep
set_option linter.unusedSimpArgs false
set_option linter.unusedVariables false
/-- A datum no part of which is heavier than memory. -/
def Light {H : Type} (t : TypeId) (d : DataW H) : Prop := ∀ n ∈ d.weights Tryd.prog t, n ≤ reachBytes
section
variable {H : Type} {enc : TypeId × Value → H} {w : World} {base : Nat} {spare : Nat → Bool} {held : Bool} {fuel : Nat} {cs : List Value} {x : DataW H × List MemPlace}
theorem weights_all {e : TypeId} : ∀ {ds : List (DataW H)} {d : DataW H}, d ∈ ds → ∀ n ∈ d.weights Tryd.prog e, n ∈ DataW.weightsAll Tryd.prog e ds
  | d0 :: ds, d, hd, n, hn => by
    simp only [DataW.weightsAll, List.mem_append]
    rcases List.mem_cons.1 hd with rfl | hd
    · exact .inl hn
    · exact .inr (weights_all hd n hn)
theorem light_of_each {ts : List TypeId} {ds : List (DataW H)} (h : (DataW.weightsEach Tryd.prog ts ds).all (· ≤ reachBytes) = true) {j : Nat} {t : TypeId} {d : DataW H} (ht : ts[j]? = some t) (hd : ds[j]? = some d) : Light t d := by
  intro n hn
  have := List.all_eq_true.1 h _ (DataW.weights_mem_each ht hd n hn)
  simpa using this
theorem light_field {t : TypeId} {fs : Array Field} (ht : Tryd.prog.underlying t = some (.struct fs)) (h : DataW.trod enc Tryd.prog w base spare held fuel t cs = some x) (hx : Light t x.1) (i : Nat) (f : Field) (hi : fs[i]? = some f) :
    ∃ n y, DataW.trod enc Tryd.prog w base spare held n f.type ((cs.drop f.offset).take (Tryd.prog.cellsOf f.type)) = some y ∧ Light f.type y.1 := by
  obtain ⟨xs, n, _, rfl, hlen, hxs, hf⟩ := DataW.trod_struct ht h
  have h0 := hf i f hi
  have hl : i < xs.length := by rw [hxs]; exact (Array.getElem?_eq_some_iff.1 hi).1
  rw [List.getElem?_eq_getElem hl] at h0
  refine ⟨n, _, h0, fun k hk => hx k ?_⟩
  simp only [DataW.weights, ht]
  exact DataW.weights_mem_each (j := i) (by simp [hi]) (by simp [hl]) k hk
theorem open_rows {t e : TypeId} (size bytes : Nat) (ht : Tryd.prog.underlying t = some (.slice e)) (hz : Tryd.prog.cellsOf e = size) (hby : Tryd.prog.bytesOf e = bytes) (h : DataW.trod enc Tryd.prog w base spare held fuel t cs = some x) (hx : Light t x.1) :
    ∃ A n c, cs = [.slice A n c] ∧ n ≤ c ∧ c ≤ maxLen ∧ n * bytes ≤ reachBytes ∧
      ∀ i, i < n → ∃ ad cs' m y, A = some ad ∧ (∀ j, j < size → w.cell? (ad.add (i * size + j)) = cs'[j]?) ∧ cs'.length = size ∧ DataW.trod enc Tryd.prog w base spare held m e cs' = some y ∧ Light e y.1 := by
  rcases DataW.trod_slice ht h with ⟨rfl, rfl⟩ | ⟨a, len, cap, elems, rest, n, _, rfl, rfl, hb, hl, hm, hlen, hel, _, _⟩
  · exact ⟨none, 0, 0, rfl, Nat.le_refl _, by simp [maxLen], by simp, fun i hi => absurd hi (by omega)⟩
  · have hw := hx ((elems.map (·.1)).length * bytes + (rest.map (·.1)).length * bytes) (by simp [DataW.weights, ht, hby, Nat.add_mul])
    refine ⟨some a, len, cap, rfl, hl, hm, ?_, ?_⟩
    · have : len * bytes = (elems.map (·.1)).length * bytes := by rw [List.length_map, hlen]
      omega
    · intro i hi
      have h0 := hel i hi
      rw [List.getElem?_eq_getElem (by omega)] at h0
      obtain ⟨cs', h1, h2⟩ := Option.bind_eq_some_iff.1 h0
      rw [hz] at h1
      obtain ⟨_, h3, h4⟩ := World.cells?_some h1
      refine ⟨a, cs', n, _, rfl, fun j hj => ?_, h3, h2, fun k hk => hx k ?_⟩
      · rw [← h4 j hj, add_of_add]
      · simp only [DataW.weights, ht, List.mem_cons, List.mem_append]
        exact .inr (.inl (weights_all (List.mem_map.2 ⟨elems[i], List.getElem_mem _, rfl⟩) k hk))
theorem bytesOf3 : Tryd.prog.bytesOf 3 = 8 := by kernel_rfl
theorem bytesOf81 : Tryd.prog.bytesOf 81 = 184 := by kernel_rfl
theorem cellsOf81 : Tryd.prog.cellsOf 81 = 18 := by kernel_rfl
theorem cellsOf74 : Tryd.prog.cellsOf 74 = 3 := by kernel_rfl
theorem cellsOf79 : Tryd.prog.cellsOf 79 = 5 := by kernel_rfl
theorem cellsOf40 : Tryd.prog.cellsOf 40 = 1 := by kernel_rfl
theorem reach47 {n : Nat} (h : n ≤ reachBytes) : n ≤ 140737488355328 := by unfold reachBytes at h; omega
theorem open_intsAt (h : DataW.trod enc Tryd.prog w base spare held fuel 40 cs = some x) (hx : Light 40 x.1) : ∃ v xs, cs = [v] ∧ IntsAt w 0 w.heap.size v xs ∧ ∀ z ∈ xs, I64 z := by
  obtain ⟨A, n, c, rfl, h1, h2, h3, h4⟩ := open_rows 1 8 Tryd.underlying40 cellsOf3 bytesOf3 h hx
  obtain ⟨f, hf⟩ := choose_lt (α := Int) (n := n) (p := fun i z => I64 z ∧ ∃ ad, A = some ad ∧ w.cell? (ad.add i) = some (.int .i64 z)) (fun i hi => by
    obtain ⟨ad, cs', m, y, e1, e2, e3, e4, _⟩ := h4 i hi
    obtain ⟨z, rfl, hz⟩ := trod_i64 e4
    exact ⟨z, hz, ad, e1, by have := e2 0 (by omega); simpa using this⟩)
  have hlen : ((List.range n).map f).length = n := by simp
  refine ⟨_, (List.range n).map f, rfl, ⟨A, c, by rw [hlen], by rw [hlen]; exact h1, h2, by rw [hlen]; exact reach47 h3, ?_⟩, ?_⟩
  · rw [hlen]
    refine ⟨by simp [ints_length], fun hn => ?_⟩
    obtain ⟨_, ad, rfl, hc⟩ := hf 0 hn
    refine ⟨ad, rfl, Nat.zero_le _, ?_, ?_⟩
    · have := World.block_lt_of_cell? w _ hc
      rwa [block_of_add] at this
    · intro j u hu
      rw [ints_getElem?] at hu
      rcases Nat.lt_or_ge j n with hj | hj
      · obtain ⟨_, ad', e, hc'⟩ := hf j hj
        injection e with e
        subst e
        simp [hj] at hu
        rw [hc', ← hu]
      · simp [List.getElem?_eq_none, hj] at hu
  · intro z hz
    obtain ⟨i, hi, rfl⟩ := List.mem_map.1 hz
    exact (hf i (by simpa using hi)).1
theorem trod_str (h : DataW.trod enc Tryd.prog w base spare held fuel 9 cs = some x) : ∃ s : ByteArray, cs = [.string s] ∧ s.size ≤ maxLen := by
  obtain ⟨s, h1, _, h2⟩ := DataW.trod_string Tryd.underlying9 h
  exact ⟨s, h1, h2⟩
theorem list3 {α : Type} {l : List α} (h : l.length = 3) : ∃ a b c, l = [a, b, c] := by
  match l, h with
  | [a, b, c], _ => exact ⟨a, b, c, rfl⟩
theorem list5 {α : Type} {l : List α} (h : l.length = 5) : ∃ a b c d e, l = [a, b, c, d, e] := by
  match l, h with
  | [a, b, c, d, e], _ => exact ⟨a, b, c, d, e, rfl⟩
theorem list18 {α : Type} {l : List α} (h : l.length = 18) : ∃ a b c d e f g i j k m n o p q r s t, l = [a, b, c, d, e, f, g, i, j, k, m, n, o, p, q, r, s, t] := by
  match l, h with
  | [a, b, c, d, e, f, g, i, j, k, m, n, o, p, q, r, s, t], _ => exact ⟨a, b, c, d, e, f, g, i, j, k, m, n, o, p, q, r, s, t, rfl⟩
theorem trod_id (h : DataW.trod enc Tryd.prog w base spare held fuel 74 cs = some x) : ∃ a b c, cs = [.int .i64 a, .int .i64 b, .int .i64 c] ∧ I64 a ∧ I64 b ∧ I64 c := by
  have hlen := trod_len Tryd.underlying74 h
  obtain ⟨_, _, h0⟩ := trod_field Tryd.underlying74 h 0 _ rfl
  obtain ⟨_, _, h1⟩ := trod_field Tryd.underlying74 h 1 _ rfl
  obtain ⟨_, _, h2⟩ := trod_field Tryd.underlying74 h 2 _ rfl
  rw [cellsOf74] at hlen
  obtain ⟨a, e0, b0⟩ := trod_i64 h0
  obtain ⟨b, e1, b1⟩ := trod_i64 h1
  obtain ⟨c, e2, b2⟩ := trod_i64 h2
  clear h h0 h1 h2
  obtain ⟨c0, c1, c2, rfl⟩ := list3 hlen
  simp [cellsOf3] at e0 e1 e2
  exact ⟨a, b, c, by rw [e0, e1, e2], b0, b1, b2⟩
theorem flatten_len (rows : List (List Value)) (hl : ∀ r ∈ rows, r.length = 18) : rows.flatten.length = rows.length * 18 := by
  induction rows with
  | nil => rfl
  | cons r rows ih =>
    rw [List.flatten_cons, List.length_append, ih (fun r h => hl r (by simp [h])), hl r (by simp), List.length_cons]
    omega
instance : Inhabited Cmd := ⟨⟨0, 0, 0, 0, ByteArray.empty, ByteArray.empty, 0, 0, 0, 0, 0, 0, 0, ByteArray.empty, 0, [], 0, 0⟩⟩
/-- A script's element. -/
structure OpR where
  kind : Int
  which : Int
  r : Int
  n : Int
  lv : Value
  led : List Cmd
def OpR.cells (o : OpR) : List Value := [.int .i64 o.kind, .int .i64 o.which, .int .i64 o.r, .int .i64 o.n, o.lv]
def OpR.ok (w : World) (hi : Nat) (o : OpR) : Prop := I64 o.kind ∧ I64 o.which ∧ I64 o.r ∧ I64 o.n ∧ LedAt w 0 hi o.lv o.led
instance : Inhabited OpR := ⟨⟨0, 0, 0, 0, .slice none 0 0, []⟩⟩
end
end Go.Proofs.YtnlncfjibbdimaaDoor
