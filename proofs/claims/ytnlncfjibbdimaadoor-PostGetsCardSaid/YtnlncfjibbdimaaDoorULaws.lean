/-
  Laws at one operation, each stated over the operation as it is written, so that an offer at another operation fails at once.
  The walks that copy: slices.Clone of ints, copied of ballot.
  The walks of wire.Writer, for small numbers and empty texts.
  The walks that compare: lists of numbers, commands, ledgers.
-/
import Derived.Test.YtnlncfjibbdimaaDoorUBase
import Derived.Deep.MidRow
import Derived.Deep.DeepCutAuto
import Derived.Deep.QuietTactic
import Derived.BigQuiet
import Derived.Lib.QuietBelow
namespace Go.Proofs.YtnlncfjibbdimaaDoor
open Go.RowKit
section
variable {P : Program} {ops : Array Oper} {rest : List Oper} {a : Act} {W : World} {Q : Exit → Act → World → Prop} {d : Option Tmp} {tp : TypeId} {ps : String} {af : Array Edge}
/-- A whole row (a struct, an array) is loaded. -/
theorem law_load (ty : TypeId) (x : Operand) (b o : Nat) (cs : List Value) (hx : a.eval x = .pointer (some ⟨b, o, none⟩)) (hc : W.rangeAt b o cs)
    {ds : TypeDesc} (hu : P.underlying ty = some ds) (hd : ds.isRow = true) (hi : (P.info? ty).map (·.size) = some cs.length)
    (h : wpList P ops Q rest (a.put d (.agg cs.toArray)) W) : wpList P ops Q ({ dst := d, op := .load ty x, type := tp, pos := ps, after := af, guard := none } :: rest) a W :=
  wpList_load_mid rfl ty x rfl b o hx cs ds hc hu hd hi h
theorem setRow_alloc (w : World) (old cells : Array Value) (t : TypeId) : (w.alloc (.cells old t)).setRow w.heap.size cells = w.alloc (.cells cells t) := by
  unfold World.setRow World.alloc
  congr 1
  apply Array.ext_getElem?
  intro i
  simp only [Array.getElem?_modify, Array.getElem?_push]
  by_cases h : i = w.heap.size
  · subst h; simp
  · rw [if_neg (by omega), if_neg (by omega), if_neg (by omega)]
/-- A whole row is stored into the block that has just been made. -/
theorem law_store_fresh (ty : TypeId) (x y : Operand) (w : World) (t : TypeId) (old cells : Array Value)
    (hx : a.eval x = .pointer (some ⟨w.heap.size, 0, none⟩)) (hy : a.eval y = .agg cells) (hW : W = w.alloc (.cells old t)) (hi : (P.info? ty).map (·.size) = some cells.size)
    (hold : old.size = cells.size) (h1 : cells.all (·.oneCell') = true)
    (h : wpList P ops Q rest (a.put d undef) (w.alloc (.cells cells t))) : wpList P ops Q ({ dst := d, op := .store ty x y, type := tp, pos := ps, after := af, guard := none } :: rest) a W := by
  subst hW
  refine wpList_store_row rfl ty x y rfl w.heap.size cells hx hy t old (heap_alloc_new w _) hi hold h1 ?_
  rw [setRow_alloc]
  exact h
/-- A whole row is stored into a block that is known whole. -/
theorem law_store_row (ty : TypeId) (x y : Operand) (g : Nat) (t : TypeId) (old cells : Array Value) (hB : Blk W g t old)
    (hx : a.eval x = .pointer (some ⟨g, 0, none⟩)) (hy : a.eval y = .agg cells) (hi : (P.info? ty).map (·.size) = some cells.size)
    (hold : old.size = cells.size) (h1 : cells.all (·.oneCell') = true)
    (h : ∀ W', Blk W' g t cells → Fr W.heap.size (· = g) W W' → W'.heap.size = W.heap.size → wpList P ops Q rest (a.put d undef) W') : wpList P ops Q ({ dst := d, op := .store ty x y, type := tp, pos := ps, after := af, guard := none } :: rest) a W := by
  refine wpList_store_row rfl ty x y rfl g cells hx hy t old hB hi hold h1 (h _ ?_ ?_ (by simp))
  · have hlt := hB.lt
    unfold Blk at hB ⊢
    simp [World.setRow, Array.getElem?_modify, hB]
  · refine ⟨rfl, rfl, rfl, by simp, fun k hk hs => ?_⟩
    simp only [World.setRow, Array.getElem?_modify]
    rw [if_neg (by omega)]
end
/-- Storing a row's cells one by one over a row of the same length gives the row. -/
theorem foldl_set (cs : List Value) : ∀ (k : Nat) (ini : Array Value), ini.size = k + cs.length →
    (cs.zipIdx k).foldl (fun (a : Array Value) (x : Value × Nat) => a.setIfInBounds x.2 x.1) ini = (ini.toList.take k ++ cs).toArray := by
  induction cs with
  | nil => intro k ini h; simp at h; simp [← h]; rw [List.take_of_length_le (by simp)]
  | cons c cs ih =>
    intro k ini h
    simp only [List.length_cons] at h
    rw [List.zipIdx_cons, List.foldl_cons, ih (k + 1) _ (by simp; omega)]
    congr 1
    apply List.ext_getElem?
    intro i
    simp only [List.getElem?_append, List.getElem?_take, Array.toList_setIfInBounds, List.getElem?_set, List.length_take, List.length_set, Array.length_toList]
    by_cases h1 : i < k
    · simp [h1, show i < k + 1 by omega, show ¬ k = i by omega, show i < min (k + 1) ini.size by omega, show i < min k ini.size by omega]
    · by_cases h2 : i = k
      · subst h2
        simp [show i < min (i + 1) ini.size by omega, show min i ini.size = i by omega, show i < ini.size by omega]
      · simp [show ¬ i < k + 1 by omega, h1, show min (k + 1) ini.size = k + 1 by omega, show min k ini.size = k by omega, show i - k = (i - (k + 1)) + 1 by omega]
theorem fill_one (size : Nat) (ini cells : Array Value) (h1 : cells.size = size) (h2 : ini.size = size) : Instr.fill (fun j => some (j * size, size)) ini [(0, .agg cells)] = some cells := by
  have hf := foldl_set cells.toList 0 ini (by simp [h1, h2])
  have hz : cells.zipIdx = (cells.toList.zipIdx 0).toArray := by rw [← Array.toList_zipIdx, Array.toArray_toList]
  have he : (Value.agg cells).cells = cells := rfl
  simp only [Instr.fill, he, Nat.zero_mul, Nat.zero_add]
  rw [if_neg (by simp [h1, h2]), hz, List.foldl_toArray]
  rw [hf]
  simp
theorem run_buildSlice1 {P : Program} (t e : TypeId) (i : TypeInfo) (z : Value) (cells : Array Value) (ht : P.underlying t = some (.slice e)) (hi : P.info? e = some i) (hz : i.zero = some z)
    (hs : i.size = cells.size) (hzs : z.cells.size = cells.size) (h0 : 0 < cells.size) (hle : cells.size ≤ 16777216) (w : World) :
    (Instr.buildSlice t 1 #[(0, .agg cells)]).run P w = .ok (.slice (some ⟨w.heap.size, 0, none⟩) 1 1) (w.alloc (.cells cells e)) := by
  have hfill := fill_one i.size ((Array.range (1 * i.size)).map (z.cells[· % z.cells.size]!)) cells hs.symm (by simp)
  have h1 : ¬ (1 * i.size > 2 ^ 24) := by omega
  have h2 : ¬ (1 * i.size = 0) := by omega
  simp only [Instr.buildSlice, Sem.run_bind, run_underlying ht, Result.andThen_ok, sizeOf, typeInfo, zeroValue]
  simp [hi, hz, newRow, show ¬ 16777216 < i.size by omega, show ¬ i.size = 0 by omega]
  rw [Nat.one_mul] at hfill
  rw [hfill]
  simp [newObj]
  rfl
section
variable {P : Program} {ops : Array Oper} {rest : List Oper} {a : Act} {W : World} {Q : Exit → Act → World → Prop} {d : Option Tmp} {tp : TypeId} {ps : String} {af : Array Edge}
/-- A slice of one struct is laid. -/
theorem law_buildSlice1 (t e : TypeId) (x : Operand) (i : TypeInfo) (z : Value) (cells : Array Value) (n : Nat) (hx : a.eval x = .agg cells) (ht : P.underlying t = some (.slice e)) (hi : P.info? e = some i) (hz : i.zero = some z)
    (hs : i.size = n) (hzs : z.cells.size = n) (hn : cells.size = n) (h0 : 0 < n) (hle : n ≤ 16777216)
    (h : wpList P ops Q rest (a.put d (.slice (some ⟨W.heap.size, 0, none⟩) 1 1)) (W.alloc (.cells cells e))) :
    wpList P ops Q ({ dst := d, op := .buildSlice t 1 #[(0, x)], type := tp, pos := ps, after := af, guard := none } :: rest) a W :=
  wpList_plain rfl fun _ hK => by
    subst hn
    have hr := run_buildSlice1 t e i z cells ht hi hz hs hzs h0 hle W
    unfold Oper.wp execOp
    simp only [List.map_toArray, List.map_cons, List.map_nil, hx, Sem.run_bind, hr, Result.andThen_ok, Sem.run_pure]
    exact hK _ _ h
end
theorem Blk.range {w : World} {g : Nat} {t : TypeId} {cs : List Value} (h : Blk w g t cs.toArray) : w.rangeAt g 0 cs := fun j v hv => by
  rw [h.cell]; simpa using hv
theorem rangeAt_fr {w w' : World} {b o B : Nat} {S : Nat → Prop} {cs : List Value} (h : w.rangeAt b o cs) (f : Fr B S w w') (hb : b < B) (hs : ¬ S b) : w'.rangeAt b o cs := fun j v hv =>
  (f.cell (p := ⟨b, o + j, none⟩) hb hs).trans (h j v hv)
theorem cells_oneCell (c : Cmd) (A : Option Addr) (n k : Nat) : (c.cells (.slice A n k)).toArray.all (·.oneCell') = true := by simp [Cmd.cells, Value.oneCell']
theorem cmd_info : (Tryd.prog.info? 81).map (·.size) = some 18 := by kernel_rfl
theorem int_info : (Tryd.prog.info? 3).map (fun i => (i.zero, i.size, i.bytes)) = some (some (.int .i64 0), 1, 8) := by kernel_rfl
/-- Element i of a ledger, in the form that the walk's load asks. -/
theorem LedAt.range {w : World} {lo hi : Nat} {A : Option Addr} {n cap : Nat} {l : List Cmd} (h : LedAt w lo hi (.slice A n cap) l) {i : Nat} {c : Cmd} (hc : l[i]? = some c) :
    ∃ b o pv, A = some ⟨b, o, none⟩ ∧ lo ≤ b ∧ b < hi ∧ w.rangeAt b (o + i * 18) (c.cells pv) ∧ IntsAt w lo hi pv c.parts := by
  obtain ⟨ad, cap', pv, hv, h1, h2, h3, h4⟩ := h.elem hc
  obtain ⟨b, o, sp⟩ := ad
  have hA : A = some ⟨b, o, sp⟩ := by injection hv
  have hsp : sp = none := by
    have hlt := (List.getElem?_eq_some_iff.1 hc).1
    obtain ⟨ad', cap'', pv', hv', _, _, h3', _⟩ := h.elem (i := 0) (List.getElem?_eq_getElem (by omega))
    have hA' : A = some ad' := by injection hv'
    have h0 := h3' 0 (by omega)
    obtain rfl : ad' = ⟨b, o, sp⟩ := by rw [hA] at hA'; exact (Option.some.inj hA').symm
    have hc0 : ((l[0]'(by omega)).cells pv')[0]? = some (.int .i64 (l[0]'(by omega)).kind) := rfl
    rw [hc0] at h0
    simpa [Addr.add] using World.cell?_spot h0
  subst hsp
  refine ⟨b, o, pv, hA, h1, h2, fun j v hv => ?_, h4⟩
  have hj : j < 18 := by
    have := (List.getElem?_eq_some_iff.1 hv).1
    rwa [Cmd.cells_length] at this
  have := h3 j hj
  rw [Addr.add_mid] at this
  rw [← hv, ← this, Nat.add_assoc]
end Go.Proofs.YtnlncfjibbdimaaDoor

namespace Go.Proofs.YtnlncfjibbdimaaDoor
open Go.RowKit
set_option linter.unusedSimpArgs false
set_option linter.unusedVariables false
theorem own_ne_of_type {w : World} {b1 b2 e1 e2 s1 s2 n1 n2 : Nat} {v1 v2 : Value} {xs1 xs2 : List Value} (h1 : w.ownsRow b1 e1 s1 v1 n1 xs1) (h2 : w.ownsRow b2 e2 s2 v2 n2 xs2) (hne : e1 ≠ e2) :
    v1.ownBlock = none ∨ v1.ownBlock ≠ v2.ownBlock := by
  rcases h1.2 with ⟨rfl, _⟩ | ⟨g, cap, cur, rfl, _, hh, _⟩
  · exact .inl rfl
  · right
    rcases h2.2 with ⟨rfl, _⟩ | ⟨g', cap', cur', rfl, _, hh', _⟩
    · simp [Value.ownBlock]
    · intro he
      obtain rfl : g = g' := by simpa [Value.ownBlock] using he
      rw [hh] at hh'
      injection hh' with hh'
      injection hh' with _ ht
      exact hne ht
theorem OwnInts.grown {w w' : World} {lo hi base size n : Nat} {v u : Value} {ys : List Int} {xs : List Value} {e : TypeId} (h : OwnInts w lo hi v ys) (hu : w.ownsRow base e size u n xs) (hne : 3 ≠ e) (hg : w.grownBy w' u.ownBlock) : OwnInts w' lo hi v ys :=
  ⟨⟨h.1.1.kept hg (own_ne_of_type h.1.1 hu hne), h.1.2⟩, h.2⟩
theorem OwnRows.grown {w w' : World} {lo hi base size n : Nat} {u : Value} {rows : List (List Value)} {l : List Cmd} {xs : List Value} {e : TypeId} (h : OwnRows w lo hi rows l) (hu : w.ownsRow base e size u n xs) (hne : 3 ≠ e) (hg : w.grownBy w' u.ownBlock) : OwnRows w' lo hi rows l :=
  ⟨h.1, fun i r c h1 h2 => by
    obtain ⟨pv, e1, e2⟩ := h.2 i r c h1 h2
    exact ⟨pv, e1, e2.grown hu hne hg⟩⟩
theorem OwnRows.snoc {w : World} {lo hi : Nat} {rows : List (List Value)} {l : List Cmd} {r : List Value} {c : Cmd} (h : OwnRows w lo hi rows l) (hc : OwnCmd w lo hi r c) : OwnRows w lo hi (rows ++ [r]) (l ++ [c]) := by
  refine ⟨by simp [h.1], fun i r' c' h1 h2 => ?_⟩
  rw [List.getElem?_append] at h1 h2
  by_cases hi' : i < rows.length
  · rw [if_pos hi'] at h1
    rw [if_pos (by have := h.1; omega)] at h2
    exact h.2 i r' c' h1 h2
  · rw [if_neg hi'] at h1
    rw [if_neg (by have := h.1; omega)] at h2
    have hl := h.1
    by_cases h0 : i = rows.length
    · subst h0
      rw [show rows.length - l.length = 0 by omega] at h2
      simp at h1 h2
      rw [← h1, ← h2]; exact hc
    · rw [List.getElem?_eq_none (by simp; omega)] at h1
      cases h1
/-- What the loop of 'copied' has done after k rounds. -/
def CopInv (w : World) (l : List Cmd) (wr : World) (out : Value) (k : Nat) : Prop :=
  ∃ rows, OwnRow wr w.heap.size wr.heap.size 81 18 out k rows.flatten ∧ OwnRows wr w.heap.size wr.heap.size rows (l.take k) ∧ Below w.heap.size w wr
theorem CopInv.step {w wr w1 w3 : World} {l : List Cmd} {c : Cmd} {k : Nat} {u v1 v3 : Value} {rows : List (List Value)} {cs0 : Array Value}
    (hown : OwnRow wr w.heap.size wr.heap.size 81 18 u k rows.flatten) (hrows : OwnRows wr w.heap.size wr.heap.size rows (l.take k)) (hbel : Below w.heap.size w wr) (hc : l[k]? = some c)
    (hb1 : Below (wr.alloc (.cells cs0 81)).heap.size (wr.alloc (.cells cs0 81)) w1) (hv : OwnInts w1 (wr.alloc (.cells cs0 81)).heap.size w1.heap.size v1 c.parts)
    (hown3 : w3.ownsRow w.heap.size 81 18 v3 (k + 1) (rows.flatten ++ c.cells v1))
    (hownW : ((w1.setCell ⟨wr.heap.size, 15, none⟩ v1).alloc (.cells (c.cells v1).toArray 81)).ownsRow w.heap.size 81 18 u k rows.flatten)
    (hg3 : ((w1.setCell ⟨wr.heap.size, 15, none⟩ v1).alloc (.cells (c.cells v1).toArray 81)).grownBy w3 u.ownBlock) : CopInv w l w3 v3 (k + 1) := by
  have hs1 := hb1.size
  have hsw := hbel.size
  simp only [World.size_alloc] at hs1 hv hb1
  have hsz3 := hg3.size
  simp only [World.size_alloc, World.size_setCell] at hsz3
  have F : Fr wr.heap.size (fun _ => False) wr ((w1.setCell ⟨wr.heap.size, 15, none⟩ v1).alloc (.cells (c.cells v1).toArray 81)) :=
    ((Fr.of_below (((Below.refl wr.heap.size wr).alloc (Nat.le_refl _) (.cells cs0 81)).trans (hb1.mono (by omega))) (fun _ => False)).setCell (p := ⟨wr.heap.size, 15, none⟩) (.inr (Nat.le_refl _)) _).alloc (by simp; omega) _
  have hrW := (hrows.fr F (Nat.le_refl _) (fun _ _ _ h => h)).grown hownW (by decide) hg3
  have Fv : Fr w1.heap.size (· = wr.heap.size) w1 ((w1.setCell ⟨wr.heap.size, 15, none⟩ v1).alloc (.cells (c.cells v1).toArray 81)) :=
    ((Fr.refl w1.heap.size (· = wr.heap.size) w1).setCell (p := ⟨wr.heap.size, 15, none⟩) (.inl rfl) v1).alloc (by simp) _
  have hvW := (hv.fr Fv (Nat.le_refl _) (fun k h1 h2 h3 => by omega)).grown hownW (by decide) hg3
  refine ⟨rows ++ [c.cells v1], ⟨by simpa using hown3, fun g hg => (hown3.lt g hg).2⟩, ?_, ?_⟩
  · rw [List.take_add_one, hc]
    exact (hrW.wider (Nat.le_refl _) (by omega)).snoc ⟨v1, rfl, hvW.wider (by omega) (by omega)⟩
  · have hb := (F.mono hsw (fun _ _ h => h)).below (fun _ _ h => h)
    exact (hbel.trans hb).grown hg3 (by simp; omega) (fun g hg => (hownW.lt g hg).1)
theorem cmd_info' : ∃ i z, Tryd.prog.info? 81 = some i ∧ i.zero = some z ∧ i.size = 18 ∧ i.bytes = 184 ∧ z.cells.size = 18 := by
  have h : (Tryd.prog.info? 81).map (fun i => (i.zero.map (fun z => z.cells.size), i.size, i.bytes)) = some (some 18, 18, 184) := by kernel_rfl
  cases hi : Tryd.prog.info? 81 with
  | none => rw [hi] at h; simp at h
  | some i =>
    rw [hi] at h
    simp only [Option.map_some, Option.some.injEq, Prod.mk.injEq] at h
    cases hz : i.zero with
    | none => rw [hz] at h; simp at h
    | some z => rw [hz] at h; exact ⟨i, z, rfl, hz, h.2.1, h.2.2, by simpa using h.1⟩
end Go.Proofs.YtnlncfjibbdimaaDoor

namespace Go.Proofs.YtnlncfjibbdimaaDoor
open Go.RowKit
set_option linter.unusedSimpArgs false
set_option linter.unusedVariables false
theorem u8_info : (Tryd.prog.info? 5).map (fun i => (i.zero, i.size, i.bytes)) = some (some (.int .u8 0), 1, 1) := by kernel_rfl
theorem info_parts8 {i : Option TypeInfo} (h : i.map (fun i => (i.zero, i.size, i.bytes)) = some (some (.int .u8 0), 1, 1)) : ∃ j, i = some j ∧ j.zero = some (.int .u8 0) ∧ j.size = 1 ∧ j.bytes = 1 := by
  cases i with
  | none => simp at h
  | some j => simp at h; exact ⟨j, rfl, h.1, h.2.1, h.2.2⟩
def u8s (xs : List Nat) : List Value := xs.map fun (n : Nat) => Value.int .u8 n
theorem ownsRow_far {w : World} {base e size n g i : Nat} {v u : Value} {xs : List Value} {t : TypeId} {cs : Array Value} (h : w.ownsRow base e size v n xs) (hB : Blk w g t cs) (hne : t ≠ e) : (w.setCell ⟨g, i, none⟩ u).ownsRow base e size v n xs := by
  refine ⟨h.1, ?_⟩
  rcases h.2 with h2 | ⟨k, cap, cur, rfl, hb, hh, hr⟩
  · exact .inl h2
  · have hgk : k ≠ g := fun e => by
      subst e
      unfold Blk at hB
      rw [hB] at hh
      injection hh with hh
      injection hh with _ hh
      exact hne hh
    exact .inr ⟨k, cap, cur, rfl, hb, (Below.heap_setCell w ⟨g, i, none⟩ u k hgk).trans hh, hr⟩
theorem own_ne_blk {w : World} {base e size n g : Nat} {v : Value} {xs : List Value} {t : TypeId} {cs : Array Value} (h : w.ownsRow base e size v n xs) (hB : Blk w g t cs) (hne : t ≠ e) : some g ≠ v.ownBlock := by
  rcases h.2 with ⟨rfl, _⟩ | ⟨k, cap, cur, rfl, hb, hh, hr⟩
  · simp [Value.ownBlock]
  · intro he
    obtain rfl : g = k := by simpa [Value.ownBlock] using he
    unfold Blk at hB
    rw [hB] at hh
    injection hh with hh
    injection hh with _ hh
    exact hne hh
/-- A writer at block g, with its bytes; all of its memory lies from block lo on. -/
def WAt (w : World) (lo g : Nat) (bs : List Nat) : Prop := lo ≤ g ∧ bs.length ≤ 1099511627776 ∧ ∃ A c, Blk w g 227 #[.slice A bs.length c, .bool false] ∧ w.ownsRow lo 5 1 (.slice A bs.length c) bs.length (u8s bs)
/-- What a writer's call may turn: its own block, and blocks of bytes. -/
def WS (w : World) (g : Nat) (k : Nat) : Prop := k = g ∨ ∃ cs, Blk w k 5 cs
def NumW (w : World) (lo g : Nat) (bs : List Nat) (e : Ending) (w' : World) : Prop := e = .returned (.tuple #[]) ∧ WAt w' lo g bs ∧ Below lo w w' ∧ Fr w.heap.size (WS w g) w w'
theorem own_blk {w : World} {base e size n k : Nat} {v : Value} {xs : List Value} (h : w.ownsRow base e size v n xs) (hk : v.ownBlock = some k) : ∃ cs, Blk w k e cs := by
  rcases h.2 with ⟨rfl, _⟩ | ⟨k', cap, cur, rfl, hb, hh, hr⟩
  · simp [Value.ownBlock] at hk
  · obtain rfl : k' = k := by simpa [Value.ownBlock] using hk
    exact ⟨cur, hh⟩
end Go.Proofs.YtnlncfjibbdimaaDoor

namespace Go.Proofs.YtnlncfjibbdimaaDoor
open Go.RowKit
set_option linter.unusedSimpArgs false
set_option linter.unusedVariables false
theorem below_drewN {B : Nat} {a w : World} (h : Below B a w) (n : Nat) : Below B a (w.drewN n) := ⟨h.os, h.tape, h.output, h.size, h.block⟩
/-- Number i of a list of numbers. -/
theorem IntsAt.get {w : World} {lo hi : Nat} {A : Option Addr} {n c : Nat} {xs : List Int} (h : IntsAt w lo hi (.slice A n c) xs) {i : Nat} (hi' : i < xs.length) :
    ∃ b o, A = some ⟨b, o, none⟩ ∧ lo ≤ b ∧ b < hi ∧ w.cell? ⟨b, o + i, none⟩ = some (.int .i64 xs[i]) := by
  obtain ⟨A', c', hv, _, _, _, hr⟩ := h
  injection hv with hA hn hc
  subst hA
  obtain ⟨ad, rfl, h1, h2, h3⟩ := hr.2 (by omega)
  have h0 : (ints xs)[0]? = some (.int .i64 (xs[0]'(by omega))) := by rw [ints_getElem?, List.getElem?_eq_getElem (by omega)]; rfl
  have hc0 := h3 0 _ h0
  rw [Addr.add_zero'] at hc0
  obtain ⟨b, o, sp⟩ := ad
  obtain rfl : sp = none := World.cell?_spot hc0
  refine ⟨b, o, rfl, h1, h2, ?_⟩
  have hi2 : (ints xs)[i]? = some (.int .i64 xs[i]) := by rw [ints_getElem?, List.getElem?_eq_getElem hi']; rfl
  have := h3 i _ hi2
  rwa [Addr.add_mid] at this
theorem IntsAt.form {w : World} {lo hi : Nat} {v : Value} {xs : List Int} (h : IntsAt w lo hi v xs) : ∃ A c, v = .slice A xs.length c ∧ xs.length ≤ c ∧ c ≤ maxLen := by
  obtain ⟨A, c, h1, h2, h3, _⟩ := h
  exact ⟨A, c, h1, h2, h3⟩
/-- The first k numbers of both are the same. -/
def SameTo (xs ys : List Int) (k : Nat) : Prop := xs.take k = ys.take k
theorem SameTo.step {xs ys : List Int} {k : Nat} (h : SameTo xs ys k) (h1 : k < xs.length) (h2 : k < ys.length) (he : xs[k] = ys[k]) : SameTo xs ys (k + 1) := by
  unfold SameTo at *
  rw [List.take_add_one, List.take_add_one, h, List.getElem?_eq_getElem h1, List.getElem?_eq_getElem h2, he]
theorem SameTo.all {xs ys : List Int} (h : SameTo xs ys xs.length) (hl : xs.length = ys.length) : xs = ys := by
  unfold SameTo at h
  rw [List.take_length, hl, List.take_length] at h
  exact h
theorem ne_of_get {xs ys : List Int} {k : Nat} (h1 : k < xs.length) (h2 : k < ys.length) (he : xs[k] ≠ ys[k]) : xs ≠ ys := by
  intro h
  subst h
  exact he rfl
def YesNo (b : Bool) (w : World) (e : Ending) (w' : World) : Prop := e = .returned (.bool b) ∧ Below w.heap.size w w'
set_option maxHeartbeats 400000 in
theorem sameInts_any (w : World) (lo1 hi1 lo2 hi2 : Nat) (va vb : Value) (xs ys : List Int) (ha : IntsAt w lo1 hi1 va xs) (hb : IntsAt w lo2 hi2 vb ys) :
    Calls Tryd.prog 103 #[va, vb] w (YesNo (decide (xs = ys)) w) := by
  obtain ⟨A, c, rfl, hl1, hm1⟩ := ha.form
  obtain ⟨B, d, rfl, hl2, hm2⟩ := hb.form
  obtain ⟨n, hn⟩ : ∃ n, n = xs.length := ⟨_, rfl⟩
  obtain ⟨m, hm⟩ : ∃ m, m = ys.length := ⟨_, rfl⟩
  rw [← hn] at ha hl1 ⊢
  rw [← hm] at hb hl2 ⊢
  have hn63 : n ≤ 9223372036854775807 := by simp only [maxLen] at hm1; omega
  have hm63 : m ≤ 9223372036854775807 := by simp only [maxLen] at hm2; omega
  have HN := Lib.hid hn
  have HM := Lib.hid hm
  clear hn hm hl1 hl2 hm1 hm2
  by_cases hnm : n = m
  · subst hnm
    have hne : ((n : Int) != (n : Int)) = false := by simp
    go_enter Tryd.func103, Tryd.ntmps103
    go_wp2
    go_loopw [13] (fun i wr => ∃ k : Nat, k ≤ n ∧ i = .int .i64 k ∧ SameTo xs ys k ∧ ∃ q, wr = w.drewN q) (fun i _ => n - (intOf i).toNat)
    case atStart => exact ⟨0, Nat.zero_le _, rfl, by simp [SameTo], 0, rfl⟩
    case round =>
      obtain ⟨k, hk, rfl, hs, q, rfl⟩ := hrel
      by_cases hlt : k < n
      · have hk1 : k < xs.length := by rw [← HN.out]; exact hlt
        have hk2 : k < ys.length := by rw [← HM.out]; exact hlt
        obtain ⟨b1, o1, rfl, _, _, c1⟩ := ha.get hk1
        obtain ⟨b2, o2, rfl, _, _, c2⟩ := hb.get hk2
        obtain ⟨x, hx⟩ : ∃ x, x = xs[k] := ⟨_, rfl⟩
        obtain ⟨y, hy⟩ : ∃ y, y = ys[k] := ⟨_, rfl⟩
        rw [← hx] at c1
        rw [← hy] at c2
        have HX := Lib.hid hx
        have HY := Lib.hid hy
        clear hx hy ha hb
        have hlt' : (k : Int) < (n : Int) := by omega
        by_cases hxy : x = y
        · have hbne : (x != y) = false := by simp [hxy]
          have HXY := Lib.hid hxy
          clear hxy
          go_wp2_with (fail)
          go_quiet (fail)
          go_wp2
          go_roundw
          case rel => exact ⟨k + 1, by omega, by go_num, hs.step hk1 hk2 (by rw [← HX.out, ← HY.out]; exact HXY.out), _, rfl⟩
          case measure => simp [intOf]; omega
        · have hbne : (x != y) = true := by simp [hxy]
          have HXY := Lib.hid hxy
          clear hxy
          go_wp2_with (fail)
          go_quiet (fail)
          go_wp2
          go_ret
          exact ⟨ret_bool (by symm; exact decide_eq_false (ne_of_get hk1 hk2 (by rw [← HX.out, ← HY.out]; exact HXY.out))), below_drewN (below_drewN (Below.refl _ _) _) _⟩
      · have hkn : k = n := by omega
        subst hkn
        go_wp2
        go_ret
        have h1 := HN.out
        exact ⟨ret_bool (by symm; exact decide_eq_true (SameTo.all (by rw [← h1]; exact hs) (by rw [← h1]; exact HM.out))), below_drewN (Below.refl _ _) _⟩
  · have hne : ((n : Int) != (m : Int)) = true := by simp; omega
    have HNM := Lib.hid hnm
    clear hnm
    go_enter Tryd.func103, Tryd.ntmps103
    go_wp2
    go_ret
    exact ⟨ret_bool (by symm; exact decide_eq_false (fun h => HNM.out (by rw [HN.out, HM.out, h]))), Below.refl _ _⟩
/-- A proposition's answer. -/
noncomputable def tf (p : Prop) : Bool := @decide p (Classical.propDecidable p)
theorem tf_true {p : Prop} (h : p) : tf p = true := by unfold tf; simp [h]
theorem tf_false {p : Prop} (h : ¬ p) : tf p = false := by unfold tf; simp [h]
end Go.Proofs.YtnlncfjibbdimaaDoor
