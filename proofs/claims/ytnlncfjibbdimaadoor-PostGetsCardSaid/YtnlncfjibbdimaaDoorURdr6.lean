/-
  The walk of the command reader's command where a command is there.
-/
import Derived.Test.YtnlncfjibbdimaaDoorURdrA
namespace Go.Proofs.YtnlncfjibbdimaaDoor
open Go.RowKit
set_option linter.unusedSimpArgs false
set_option linter.unusedVariables false
/-- A command was read, and R is left; pv: the slice of its parts, new. -/
def GotCmd (lo g : Nat) (c : Cmd) (R : List Nat) (w : World) (e : Ending) (w' : World) : Prop :=
  ∃ pv, e = .returned (.agg (c.cells pv).toArray) ∧ OwnInts w' w.heap.size w'.heap.size pv c.parts ∧ Rem w' lo g R ∧ Fr w.heap.size (fun k => k = g) w w'
/-- A call's frame behind what the region made ahead of it. -/
theorem frtail {w a b c : World} {g : Nat} (hb : Below a.heap.size a b) (h : Fr w.heap.size (fun k => k = g) w a) (k : Fr b.heap.size (fun k => k = g) b c) : Fr w.heap.size (fun k => k = g) w c :=
  FrG.trans (FrG.trans h (Fr.of_below hb _)) k
theorem frsize {a b c : World} {g : Nat} (hb : Below a.heap.size a b) (k : Fr b.heap.size (fun k => k = g) b c) : a.heap.size ≤ c.heap.size := Nat.le_trans hb.size k.size
/-- A whole row is stored: the two ways in which the walk asks it. -/
theorem stC81 {W : World} {z : Nat} {old : Array Value} (cells : Array Value) (h : Blk W z 81 old) (ho : old.size = cells.size) (h1 : cells.all (·.oneCell') = true) : (storeCells ⟨z, 0, none⟩ cells.toList 0).run Tryd.prog W = .ok () (W.setRow z cells) := by
  have := run_storeCells_from (P := Tryd.prog) z 81 cells.toList 0 old W h (by simp; omega) (fun v hv => (Array.all_eq_true_iff_forall_mem.1 h1) v (by simpa using hv))
  simpa using this
theorem Blk.row {W : World} {z : Nat} {t : TypeId} {old : Array Value} (h : Blk W z t old) (cells : Array Value) : Blk (W.setRow z cells) z t cells := setRow_heap W z old cells t (0, 0) h
theorem Blk.rowFar {W : World} {y z : Nat} {t : TypeId} {cs : Array Value} (h : Blk W y t cs) (hne : y ≠ z) (cells : Array Value) : Blk (W.setRow z cells) y t cs := by
  unfold Blk at h ⊢
  simp only [World.setRow, Array.getElem?_modify]
  rw [if_neg (Ne.symm hne)]
  exact h
theorem setRow_fr {W : World} {B z : Nat} {S : Nat → Prop} (hz : S z ∨ B ≤ z) (cells : Array Value) : Fr B S W (W.setRow z cells) := by
  refine ⟨rfl, rfl, rfl, by simp [World.setRow], fun k hk hs => ?_⟩
  simp only [World.setRow, Array.getElem?_modify]
  have : ¬ z = k := by
    rintro rfl
    rcases hz with h | h
    · exact hs h
    · omega
  rw [if_neg this]
theorem Rem.row {W : World} {lo g z : Nat} {R : List Nat} {t : TypeId} {old : Array Value} (h : Rem W lo g R) (hB : Blk W z t old) (ht : t ≠ 5) (hz : z ≠ g) (cells : Array Value) : Rem (W.setRow z cells) lo g R := by
  obtain ⟨bs, q, ⟨h1, h2, h3, h4, A, c, hb, ho⟩, h6⟩ := h
  refine ⟨bs, q, ⟨h1, h2, h3, h4, A, c, hb.rowFar (Ne.symm hz) _, ?_⟩, h6⟩
  refine ⟨ho.1, ?_⟩
  rcases ho.2 with h7 | ⟨k, cap, cur, he, hb', hh, hr⟩
  · exact .inl h7
  · have hzk : k ≠ z := fun e => by
      subst e
      unfold Blk at hB
      rw [hB] at hh
      injection hh with hh
      injection hh with _ hh
      exact ht hh
    exact .inr ⟨k, cap, cur, he, hb', Blk.rowFar (t := 5) (cs := cur) hh hzk cells, hr⟩
theorem store81 {w5 : World} {z : Nat} {old : Array Value} (cells : Array Value) (h : Blk w5 z 81 old) (ho : old.size = cells.size) (h1 : cells.all (·.oneCell') = true) :
    ∃ W6, (storeCells ⟨z, 0, none⟩ cells.toList 0).run Tryd.prog w5 = .ok () W6 ∧ Blk W6 z 81 cells ∧ (∀ (y : Nat) (t : TypeId) (cs : Array Value), Blk w5 y t cs → y ≠ z → Blk W6 y t cs) ∧
      (∀ (lo g : Nat) (R : List Nat), Rem w5 lo g R → z ≠ g → Rem W6 lo g R) ∧ (∀ (B : Nat) (S : Nat → Prop), (S z ∨ B ≤ z) → Fr B S w5 W6) :=
  ⟨_, stC81 cells h ho h1, h.row cells, fun _ _ _ hy hne => hy.rowFar hne cells, fun _ _ _ hR hz => hR.row h (by decide) hz cells, fun _ _ hz => setRow_fr hz cells⟩
theorem Rem.fr1 {w w' : World} {lo g z : Nat} {R : List Nat} {t : TypeId} {cs : Array Value} (h : Rem w lo g R) (f : Fr w.heap.size (fun k => k = z) w w') (hB : Blk w z t cs) (ht : t ≠ 5) (hz : z ≠ g) : Rem w' lo g R := by
  obtain ⟨bs, q, ⟨h1, h2, h3, h4, A, c, hb, ho⟩, h6⟩ := h
  refine ⟨bs, q, ⟨h1, h2, h3, h4, A, c, hb.fr f hb.lt (Ne.symm hz), ?_⟩, h6⟩
  refine ⟨ho.1, ?_⟩
  rcases ho.2 with h7 | ⟨k, cap, cur, he, hb', hh, hr⟩
  · exact .inl h7
  · have hzk : k ≠ z := fun e => by
      subst e
      unfold Blk at hB
      rw [hB] at hh
      injection hh with hh
      injection hh with _ hh
      exact ht hh
    exact .inr ⟨k, cap, cur, he, hb', Blk.fr (t := 5) (cs := cur) hh f (Blk.lt (t := 5) (cs := cur) hh) hzk, hr⟩
/-- Block z is written, block by block all else stays. -/
theorem upd {w w8 w' : World} {lo g x z : Nat} {R : List Nat} {tx ty : TypeId} {cx cy cz : Array Value} (f : Fr w8.heap.size (fun k => k = z) w8 w')
    (h : Rem w8 lo g R ∧ Fr w.heap.size (fun k => k = g) w w8 ∧ Blk w8 x tx cx ∧ Blk w8 (x + 1) ty cy ∧ Blk w8 z 81 cz) (hz : z ≠ g) (hx : x ≠ z) (hy : x + 1 ≠ z) (hw : w.heap.size ≤ z) :
    Rem w' lo g R ∧ Fr w.heap.size (fun k => k = g) w w' ∧ Blk w' x tx cx ∧ Blk w' (x + 1) ty cy :=
  ⟨h.1.fr1 f h.2.2.2.2 (by decide) hz, h.2.1.trans (f.mono h.2.1.size (fun k hk he => by omega)), h.2.2.1.fr f h.2.2.1.lt hx, h.2.2.2.1.fr f h.2.2.2.1.lt hy⟩
theorem OwnInts.frz {w w' : World} {lo hi z : Nat} {v : Value} {xs : List Int} {t : TypeId} {cs : Array Value} (h : OwnInts w lo hi v xs) (f : Fr w.heap.size (fun k => k = z) w w') (hB : Blk w z t cs) (ht : t ≠ 3) : OwnInts w' lo hi v xs := by
  obtain ⟨⟨h1, h2⟩, h3⟩ := h
  refine ⟨⟨⟨h1.1, ?_⟩, h2⟩, h3⟩
  rcases h1.2 with h7 | ⟨k, cap, cur, he, hb', hh, hr⟩
  · exact .inl h7
  · have hk : Blk w k 3 cur := hh
    have hzk : k ≠ z := fun e => by
      subst e
      unfold Blk at hB hk
      rw [hB] at hk
      injection hk with hk
      injection hk with _ hk
      exact ht hk
    exact .inr ⟨k, cap, cur, he, hb', hk.fr f hk.lt hzk, hr⟩
theorem ne1 {x z : Nat} (h : x + 2 ≤ z) : x + 1 ≠ z := by omega
theorem zlow {x n z : Nat} (hx : x = n) (h : x + 2 ≤ z) : n ≤ z := by omega
theorem ne2 {x z : Nat} (h : x + 2 ≤ z) : x ≠ z := by omega
end Go.Proofs.YtnlncfjibbdimaaDoor
