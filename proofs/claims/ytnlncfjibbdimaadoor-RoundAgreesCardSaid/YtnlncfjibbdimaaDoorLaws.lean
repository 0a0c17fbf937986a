/-
  Laws at one operation, each stated over the operation as it is written, so that an offer at another operation fails at once.
-/
import Derived.Test.YtnlncfjibbdimaaDoorBase
import Derived.Deep.MidRow
namespace Go.Proofs.YtnlncfjibbdimaaDoor
open Go.RowKit

section
variable {P : Program} {ops : Array Oper} {rest : List Oper} {a : Act} {W : World} {Q : Exit → Act → World → Prop} {d : Option Tmp} {tp : TypeId} {ps : String} {af : Array Edge}

/-- A whole row (a struct, an array) is loaded. -/
theorem law_load (ty : TypeId) (x : Operand) (b o : Nat) (cs : List Value) (hx : a.eval x = .pointer (some ⟨b, o, none⟩)) (hc : W.rangeAt b o cs)
    {ds : TypeDesc} (hu : P.underlying ty = some ds) (hd : ds.isRow = true) (hi : (P.info? ty).map (·.size) = some cs.length)
    (h : wpList P ops Q rest (a.put d (.agg cs.toArray)) W) : wpList P ops Q ({ dst := d, op := .load ty x, type := tp, pos := ps, after := af, guard := none } :: rest) a W :=
  wpList_load_mid rfl ty x rfl b o hx cs ds hc hu hd hi h

theorem setRow_alloc (w : World) (old cells : Array Value) (t : TypeId) : (w.alloc (.cells old t)).setRow w.heap.size cells = w.alloc (.cells cells t) := by
  unfold World.setRow World.alloc
  congr 1
  apply Array.ext_getElem?
  intro i
  simp only [Array.getElem?_modify, Array.getElem?_push]
  by_cases h : i = w.heap.size
  · subst h; simp
  · rw [if_neg (by omega), if_neg (by omega), if_neg (by omega)]

/-- A whole row is stored into the block that has just been made. -/
theorem law_store_fresh (ty : TypeId) (x y : Operand) (w : World) (t : TypeId) (old cells : Array Value)
    (hx : a.eval x = .pointer (some ⟨w.heap.size, 0, none⟩)) (hy : a.eval y = .agg cells) (hW : W = w.alloc (.cells old t)) (hi : (P.info? ty).map (·.size) = some cells.size)
    (hold : old.size = cells.size) (h1 : cells.all (·.oneCell') = true)
    (h : wpList P ops Q rest (a.put d undef) (w.alloc (.cells cells t))) : wpList P ops Q ({ dst := d, op := .store ty x y, type := tp, pos := ps, after := af, guard := none } :: rest) a W := by
  subst hW
  refine wpList_store_row rfl ty x y rfl w.heap.size cells hx hy t old (heap_alloc_new w _) hi hold h1 ?_
  rw [setRow_alloc]
  exact h

/-- A whole row is stored into a block that is known whole. -/
theorem law_store_row (ty : TypeId) (x y : Operand) (g : Nat) (t : TypeId) (old cells : Array Value) (hB : Blk W g t old)
    (hx : a.eval x = .pointer (some ⟨g, 0, none⟩)) (hy : a.eval y = .agg cells) (hi : (P.info? ty).map (·.size) = some cells.size)
    (hold : old.size = cells.size) (h1 : cells.all (·.oneCell') = true)
    (h : ∀ W', Blk W' g t cells → Fr W.heap.size (· = g) W W' → W'.heap.size = W.heap.size → wpList P ops Q rest (a.put d undef) W') : wpList P ops Q ({ dst := d, op := .store ty x y, type := tp, pos := ps, after := af, guard := none } :: rest) a W := by
  refine wpList_store_row rfl ty x y rfl g cells hx hy t old hB hi hold h1 (h _ ?_ ?_ (by simp))
  · have hlt := hB.lt
    unfold Blk at hB ⊢
    simp [World.setRow, Array.getElem?_modify, hB]
  · refine ⟨rfl, rfl, rfl, by simp, fun k hk hs => ?_⟩
    simp only [World.setRow, Array.getElem?_modify]
    rw [if_neg (by omega)]
end

/-- Storing a row's cells one by one over a row of the same length gives the row. -/
theorem foldl_set (cs : List Value) : ∀ (k : Nat) (ini : Array Value), ini.size = k + cs.length →
    (cs.zipIdx k).foldl (fun (a : Array Value) (x : Value × Nat) => a.setIfInBounds x.2 x.1) ini = (ini.toList.take k ++ cs).toArray := by
  induction cs with
  | nil => intro k ini h; simp at h; simp [← h]; rw [List.take_of_length_le (by simp)]
  | cons c cs ih =>
    intro k ini h
    simp only [List.length_cons] at h
    rw [List.zipIdx_cons, List.foldl_cons, ih (k + 1) _ (by simp; omega)]
    congr 1
    apply List.ext_getElem?
    intro i
    simp only [List.getElem?_append, List.getElem?_take, Array.toList_setIfInBounds, List.getElem?_set, List.length_take, List.length_set, Array.length_toList]
    by_cases h1 : i < k
    · simp [h1, show i < k + 1 by omega, show ¬ k = i by omega, show i < min (k + 1) ini.size by omega, show i < min k ini.size by omega]
    · by_cases h2 : i = k
      · subst h2
        simp [show i < min (i + 1) ini.size by omega, show min i ini.size = i by omega, show i < ini.size by omega]
      · simp [show ¬ i < k + 1 by omega, h1, show min (k + 1) ini.size = k + 1 by omega, show min k ini.size = k by omega, show i - k = (i - (k + 1)) + 1 by omega]

theorem fill_one (size : Nat) (ini cells : Array Value) (h1 : cells.size = size) (h2 : ini.size = size) : Instr.fill (fun j => some (j * size, size)) ini [(0, .agg cells)] = some cells := by
  have hf := foldl_set cells.toList 0 ini (by simp [h1, h2])
  have hz : cells.zipIdx = (cells.toList.zipIdx 0).toArray := by rw [← Array.toList_zipIdx, Array.toArray_toList]
  have he : (Value.agg cells).cells = cells := rfl
  simp only [Instr.fill, he, Nat.zero_mul, Nat.zero_add]
  rw [if_neg (by simp [h1, h2]), hz, List.foldl_toArray]
  rw [hf]
  simp

theorem run_buildSlice1 {P : Program} (t e : TypeId) (i : TypeInfo) (z : Value) (cells : Array Value) (ht : P.underlying t = some (.slice e)) (hi : P.info? e = some i) (hz : i.zero = some z)
    (hs : i.size = cells.size) (hzs : z.cells.size = cells.size) (h0 : 0 < cells.size) (hle : cells.size ≤ 16777216) (w : World) :
    (Instr.buildSlice t 1 #[(0, .agg cells)]).run P w = .ok (.slice (some ⟨w.heap.size, 0, none⟩) 1 1) (w.alloc (.cells cells e)) := by
  have hfill := fill_one i.size ((Array.range (1 * i.size)).map (z.cells[· % z.cells.size]!)) cells hs.symm (by simp)
  have h1 : ¬ (1 * i.size > 2 ^ 24) := by omega
  have h2 : ¬ (1 * i.size = 0) := by omega
  simp only [Instr.buildSlice, Sem.run_bind, run_underlying ht, Result.andThen_ok, sizeOf, typeInfo, zeroValue]
  simp [hi, hz, newRow, show ¬ 16777216 < i.size by omega, show ¬ i.size = 0 by omega]
  rw [Nat.one_mul] at hfill
  rw [hfill]
  simp [newObj]
  rfl

section
variable {P : Program} {ops : Array Oper} {rest : List Oper} {a : Act} {W : World} {Q : Exit → Act → World → Prop} {d : Option Tmp} {tp : TypeId} {ps : String} {af : Array Edge}
/-- A slice of one struct is laid. -/
theorem law_buildSlice1 (t e : TypeId) (x : Operand) (i : TypeInfo) (z : Value) (cells : Array Value) (n : Nat) (hx : a.eval x = .agg cells) (ht : P.underlying t = some (.slice e)) (hi : P.info? e = some i) (hz : i.zero = some z)
    (hs : i.size = n) (hzs : z.cells.size = n) (hn : cells.size = n) (h0 : 0 < n) (hle : n ≤ 16777216)
    (h : wpList P ops Q rest (a.put d (.slice (some ⟨W.heap.size, 0, none⟩) 1 1)) (W.alloc (.cells cells e))) :
    wpList P ops Q ({ dst := d, op := .buildSlice t 1 #[(0, x)], type := tp, pos := ps, after := af, guard := none } :: rest) a W :=
  wpList_plain rfl fun _ hK => by
    subst hn
    have hr := run_buildSlice1 t e i z cells ht hi hz hs hzs h0 hle W
    unfold Oper.wp execOp
    simp only [List.map_toArray, List.map_cons, List.map_nil, hx, Sem.run_bind, hr, Result.andThen_ok, Sem.run_pure]
    exact hK _ _ h
end


theorem Blk.range {w : World} {g : Nat} {t : TypeId} {cs : List Value} (h : Blk w g t cs.toArray) : w.rangeAt g 0 cs := fun j v hv => by
  rw [h.cell]; simpa using hv
theorem rangeAt_fr {w w' : World} {b o B : Nat} {S : Nat → Prop} {cs : List Value} (h : w.rangeAt b o cs) (f : Fr B S w w') (hb : b < B) (hs : ¬ S b) : w'.rangeAt b o cs := fun j v hv =>
  (f.cell (p := ⟨b, o + j, none⟩) hb hs).trans (h j v hv)

theorem cells_oneCell (c : Cmd) (A : Option Addr) (n k : Nat) : (c.cells (.slice A n k)).toArray.all (·.oneCell') = true := by simp [Cmd.cells, Value.oneCell']
theorem cmd_info : (Tryd.prog.info? 81).map (·.size) = some 18 := by kernel_rfl
theorem int_info : (Tryd.prog.info? 3).map (fun i => (i.zero, i.size, i.bytes)) = some (some (.int .i64 0), 1, 8) := by kernel_rfl

/-- Element i of a ledger, in the form that the walk's load asks. -/
theorem LedAt.range {w : World} {lo hi : Nat} {A : Option Addr} {n cap : Nat} {l : List Cmd} (h : LedAt w lo hi (.slice A n cap) l) {i : Nat} {c : Cmd} (hc : l[i]? = some c) :
    ∃ b o pv, A = some ⟨b, o, none⟩ ∧ lo ≤ b ∧ b < hi ∧ w.rangeAt b (o + i * 18) (c.cells pv) ∧ IntsAt w lo hi pv c.parts := by
  obtain ⟨ad, cap', pv, hv, h1, h2, h3, h4⟩ := h.elem hc
  obtain ⟨b, o, sp⟩ := ad
  have hA : A = some ⟨b, o, sp⟩ := by injection hv
  have hsp : sp = none := by
    have hlt := (List.getElem?_eq_some_iff.1 hc).1
    obtain ⟨ad', cap'', pv', hv', _, _, h3', _⟩ := h.elem (i := 0) (List.getElem?_eq_getElem (by omega))
    have hA' : A = some ad' := by injection hv'
    have h0 := h3' 0 (by omega)
    obtain rfl : ad' = ⟨b, o, sp⟩ := by rw [hA] at hA'; exact (Option.some.inj hA').symm
    have hc0 : ((l[0]'(by omega)).cells pv')[0]? = some (.int .i64 (l[0]'(by omega)).kind) := rfl
    rw [hc0] at h0
    simpa [Addr.add] using World.cell?_spot h0
  subst hsp
  refine ⟨b, o, pv, hA, h1, h2, fun j v hv => ?_, h4⟩
  have hj : j < 18 := by
    have := (List.getElem?_eq_some_iff.1 hv).1
    rwa [Cmd.cells_length] at this
  have := h3 j hj
  rw [Addr.add_mid] at this
  rw [← hv, ← this, Nat.add_assoc]

end Go.Proofs.YtnlncfjibbdimaaDoor
