/-
  RoundAgrees in memory: acceptors, rounds, letters; what the delivery of a letter comes to. No walk stands here.
  RoundAgrees: what a delivery asks of the net, as one contract for each call. No walk stands here.
-/
import Derived.Test.YtnlncfjibbdimaaDoorAgB13
import Derived.Test.YtnlncfjibbdimaaDoorAgC13
import Derived.Test.YtnlncfjibbdimaaDoorAgD13
namespace Go.Proofs.YtnlncfjibbdimaaDoor
open Go.RowKit
set_option linter.unusedSimpArgs false
set_option linter.unusedVariables false

/-! ### Ledgers abide the turn of a block that holds no cells -/
section
variable {X Y : World} {row : Option Nat} {lo hi size n : Nat} {A : Option Addr} {xs : List Value} {v : Value} {ys : List Int} {l : List Cmd} {M : Nat → Prop}
theorem Rd.kept (h : Rd X lo hi size A n xs) (hg : X.grownBy Y row) (hr : ∀ r, row = some r → ∃ o : Obj, X.heap[r]? = some o ∧ o.isCells = false) : Rd Y lo hi size A n xs :=
  ⟨h.1, fun hn => by
    obtain ⟨ad, e, h1, h2, h3⟩ := h.2 hn
    exact ⟨ad, e, h1, h2, fun j u hu => cell_kept (h3 j u hu) hg hr⟩⟩
theorem LedAt.kept (h : LedAt X lo hi v l) (hg : X.grownBy Y row) (hr : ∀ r, row = some r → ∃ o : Obj, X.heap[r]? = some o ∧ o.isCells = false) : LedAt Y lo hi v l := by
  obtain ⟨A, c, rows, h1, h2, h3, h4, h5, h6, h7⟩ := h
  refine ⟨A, c, rows, h1, h2, h3, h4, h5.kept hg hr, h6, fun i r c e1 e2 => ?_⟩
  obtain ⟨pv, q1, A', c', q2, q3, q4, q5, q6⟩ := h7 i r c e1 e2
  exact ⟨pv, q1, A', c', q2, q3, q4, q5, q6.kept hg hr⟩
theorem Lf.kept (h : Lf M X v l) (hg : X.grownBy Y row) (hr : ∀ r, row = some r → ∃ o : Obj, X.heap[r]? = some o ∧ o.isCells = false) : Lf M Y v l := by
  obtain ⟨lo, hi, h1, h2, h3⟩ := h
  exact ⟨lo, hi, h1.kept hg hr, Nat.le_trans h2 hg.size, h3⟩
theorem Lf.nil13 (M : Nat → Prop) (w : World) : Lf M w (.slice none 0 0) [] := ⟨0, 0, (OwnLed.nil_ _ _ _).at_, Nat.zero_le _, fun m _ => .inr (Nat.zero_le _)⟩
theorem Lf.own13 {lo hi : Nat} {w : World} (h : OwnLed w lo hi v l) (hhi : hi ≤ w.heap.size) (hlt : ∀ k, M k → k < lo) : Lf M w v l := ⟨lo, hi, h.at_, hhi, fun m hm => .inl (hlt m hm)⟩
theorem Lf.below {w w' : World} (h : Lf M w v l) (b : Below w.heap.size w w') : Lf M w' v l := h.fr (Fr.of_below b (fun _ => False)) (Nat.le_refl _) (fun _ h => h.elim)
end

/-! ### Letters -/
def Let.cells (l : Let) (lv : Value) : List Value := [.int .i64 l.who, .int .i64 l.to_, .bool l.tell, .bool l.answer, .int .i64 l.b.1, .int .i64 l.b.2, .int .i64 l.ac.1, .int .i64 l.ac.2, lv]
theorem Let.cells_length (l : Let) (lv : Value) : (l.cells lv).length = 9 := rfl
def letc (ps : List (Let × Value)) : List Value := ps.flatMap fun p => p.1.cells p.2
theorem letc_append (ps qs : List (Let × Value)) : letc (ps ++ qs) = letc ps ++ letc qs := by simp [letc]
theorem letc_length (ps : List (Let × Value)) : (letc ps).length = ps.length * 9 := by
  induction ps with
  | nil => rfl
  | cons p ps ih =>
    have e : letc (p :: ps) = p.1.cells p.2 ++ letc ps := rfl
    rw [e, List.length_append, ih, Let.cells_length, List.length_cons]
    omega
/-- A row of letters of the call's own, from block lo on; their ledgers lie apart from M. -/
structure LetsAt (M : Nat → Prop) (w : World) (lo : Nat) (v : Value) (ps : List (Let × Value)) : Prop where
  row : w.ownsRow lo 131 9 v ps.length (letc ps)
  led : ∀ p ∈ ps, Lf M w p.2 p.1.led
theorem LetsAt.nil_ (M : Nat → Prop) (w : World) (lo : Nat) : LetsAt M w lo (.slice none 0 0) [] := ⟨World.ownsRow_nil _ _ _ _, fun p hp => (by cases hp)⟩
theorem let_info : (Tryd.prog.info? 131).map (·.size) = some 9 := by kernel_rfl
theorem let_info' : ∃ i z, Tryd.prog.info? 131 = some i ∧ i.zero = some z ∧ i.size = 9 ∧ i.bytes = 80 ∧ z.cells.size = 9 := by
  have h : (Tryd.prog.info? 131).map (fun i => (i.zero.map (fun z => z.cells.size), i.size, i.bytes)) = some (some 9, 9, 80) := by kernel_rfl
  cases hi : Tryd.prog.info? 131 with
  | none => rw [hi] at h; simp at h
  | some i =>
    rw [hi] at h
    simp only [Option.map_some, Option.some.injEq, Prod.mk.injEq] at h
    cases hz : i.zero with
    | none => rw [hz] at h; simp at h
    | some z =>
      rw [hz] at h
      simp only [Option.map_some, Option.some.injEq] at h
      exact ⟨i, z, rfl, hz, h.2.1, h.2.2, h.1⟩

/-! ### The net -/
structure NetF (M : Nat → Prop) (w : World) (B n : Nat) (g gr ga : Nat → Nat) (s : Nat → Acc) (R : Nat → Rnd) (F : Nat → Nat → Bool) (pv lv : Nat → Value) : Prop where
  accs : AccsF M w B n g s
  rnds : ∀ i, i < n → RndF w M B (gr i) (ga i) n (F i) (R i) (pv i) (lv i)
  inj : ∀ i j, i < n → j < n → i ≠ j → gr i ≠ gr j ∧ ga i ≠ ga j
  lt : ∀ m, M m → 11 ≤ m ∧ m < w.heap.size
  pos : 0 < n
/-- The net's own blocks. -/
def NetO (n : Nat) (g gr ga : Nat → Nat) : Nat → Prop := fun k => ∃ i, i < n ∧ (k = g i ∨ k = gr i ∨ k = ga i)

section
variable {M M' S : Nat → Prop} {w w' : World} {B B' n j : Nat} {g gr ga : Nat → Nat} {s : Nat → Acc} {R : Nat → Rnd} {F : Nat → Nat → Bool} {pv lv : Nat → Value}
theorem NetF.om (h : NetF M w B n g gr ga s R F pv lv) : ∀ k, NetO n g gr ga k → M k := fun k hk => by
  obtain ⟨i, hi, rfl | rfl | rfl⟩ := hk
  · exact h.accs.in_ i hi
  · exact (h.rnds i hi).mg
  · exact (h.rnds i hi).mga
theorem NetF.fr (h : NetF M w B n g gr ga s R F pv lv) (f : Fr B' S w w') (hB : w.heap.size ≤ B') (hS : ∀ k, S k → M k) (hO : ∀ k, S k → ¬ NetO n g gr ga k) : NetF M w' B n g gr ga s R F pv lv :=
  ⟨h.accs.fr f hB hS (fun i hi hs => hO _ hs ⟨i, hi, .inl rfl⟩), fun i hi => (h.rnds i hi).fr f hB hS (fun hs => hO _ hs ⟨i, hi, .inr (.inl rfl)⟩) (fun hs => hO _ hs ⟨i, hi, .inr (.inr rfl)⟩), h.inj, fun m hm => ⟨(h.lt m hm).1, Nat.lt_of_lt_of_le (h.lt m hm).2 f.size⟩, h.pos⟩
theorem NetF.below (h : NetF M w B n g gr ga s R F pv lv) (b : Below w.heap.size w w') : NetF M w' B n g gr ga s R F pv lv := h.fr (Fr.of_below b (fun _ => False)) (Nat.le_refl _) (fun _ h => h.elim) (fun _ h => h.elim)
theorem NetF.grow (h : NetF M w B n g gr ga s R F pv lv) (hM : ∀ m, M' m → M m ∨ w.heap.size ≤ m) (hup : ∀ m, M m → M' m) (hlt : ∀ m, M' m → 11 ≤ m ∧ m < w.heap.size) : NetF M' w B n g gr ga s R F pv lv :=
  ⟨h.accs.grow hM (fun i hi => hup _ (h.accs.in_ i hi)), fun i hi => (h.rnds i hi).grow hM (hup _ (h.rnds i hi).mg) (hup _ (h.rnds i hi).mga), h.inj, hlt, h.pos⟩
/-- Blocks of unlike kinds. -/
theorem NetF.apart (h : NetF M w B n g gr ga s R F pv lv) {i j : Nat} (hi : i < n) (hj : j < n) : g i ≠ gr j ∧ g i ≠ ga j ∧ gr i ≠ ga j := by
  obtain ⟨_, _, ⟨_, _, _, u, hu, _⟩, _⟩ := h.accs.acc i hi
  exact ⟨blk_ne13 hu (h.rnds j hj).row (by decide), blk_ne13 hu (h.rnds j hj).ans (by decide), blk_ne13 (h.rnds i hi).row (h.rnds j hj).ans (by decide)⟩
/-- Acceptor j's call. -/
theorem NetF.acc (h : NetF M w B n g gr ga s R F pv lv) (hj : j < n) (f : Fr w.heap.size (· = g j) w w') {t : Acc} (ht : AccF M w' B (g j) t) : NetF M w' B n g gr ga (upd s j t) R F pv lv :=
  ⟨h.accs.step hj f ht, fun i hi => (h.rnds i hi).fr f (Nat.le_refl _) (fun k hk => by rw [hk]; exact h.accs.in_ j hj) (fun e => (h.apart hj hi).1 e.symm) (fun e => (h.apart hj hi).2.1 e.symm), h.inj, fun m hm => ⟨(h.lt m hm).1, Nat.lt_of_lt_of_le (h.lt m hm).2 f.size⟩, h.pos⟩
/-- Round j's call. -/
theorem NetF.rnd (h : NetF M w B n g gr ga s R F pv lv) (hj : j < n) (f : Fr w.heap.size (fun k => k = gr j ∨ k = ga j) w w') {r' : Rnd} {f' : Nat → Bool} {lv' : Value} (ht : RndF w' M B (gr j) (ga j) n f' r' (pv j) lv') : NetF M w' B n g gr ga s (upd R j r') (upd F j f') pv (upd lv j lv') := by
  have hS : ∀ k, k = gr j ∨ k = ga j → M k := fun k hk => by
    rcases hk with rfl | rfl
    · exact (h.rnds j hj).mg
    · exact (h.rnds j hj).mga
  refine ⟨h.accs.fr f (Nat.le_refl _) hS (fun i hi e => e.elim (h.apart hi hj).1 (h.apart hi hj).2.1), fun i hi => ?_, h.inj, fun m hm => ⟨(h.lt m hm).1, Nat.lt_of_lt_of_le (h.lt m hm).2 f.size⟩, h.pos⟩
  by_cases e : i = j
  · subst e; rw [upd_same, upd_same, upd_same]; exact ht
  · rw [upd_other _ _ e, upd_other _ _ e, upd_other _ _ e]
    have h1 := h.inj i j hi hj e
    exact (h.rnds i hi).fr f (Nat.le_refl _) hS (fun k => k.elim h1.1 (h.apart hi hj).2.2) (fun k => k.elim (fun e => (h.apart hj hi).2.2 e.symm) h1.2)
theorem frO_acc (hj : j < n) (f : Fr w.heap.size (· = g j) w w') : Fr w.heap.size (NetO n g gr ga) w w' := f.mono (Nat.le_refl _) (fun k _ hk => ⟨j, hj, .inl hk⟩)
theorem frO_rnd (hj : j < n) (f : Fr w.heap.size (fun k => k = gr j ∨ k = ga j) w w') : Fr w.heap.size (NetO n g gr ga) w w' := f.mono (Nat.le_refl _) (fun k _ hk => ⟨j, hj, .inr hk⟩)
theorem NetF.e13 {A : Nat → Addr} (h : NetF M w B n g gr ga s R F pv lv) (hE : E13 w A) (f : Fr w.heap.size (NetO n g gr ga) w w') : E13 w' A := fun q hq =>
  (f.cell (p := ⟨q, 0, none⟩) (World.block_lt_of_cell? w _ (hE q hq)) (fun hO => by have := (h.lt _ (h.om _ hO)).1; simp only at this; omega)).trans (hE q hq)
end

/-! ### What a delivery comes to. Plain. -/
def Delv (n : Nat) (s : Nat → Acc) (R : Nat → Rnd) (F : Nat → Nat → Bool) (l : Let) (s' : Nat → Acc) (R' : Nat → Rnd) (F' : Nat → Nat → Bool) (ls' : List Let) : Prop :=
  (l.answer = false ∧ l.tell = true ∧ R' = R ∧ F' = F ∧ s' = upd s l.to_ ((s l.to_).take l.b.1 l.b.2 l.led) ∧ ls' = if (s l.to_).refuse l.b.1 l.b.2 = 0 then [{ l with answer := true }] else []) ∨
  (l.answer = false ∧ l.tell = false ∧ R' = R ∧ F' = F ∧ s' = upd s l.to_ ((s l.to_).prep l.b.1 l.b.2) ∧ ls' = if (s l.to_).refuse l.b.1 l.b.2 = 0 then [{ l with answer := true, ac := ((s l.to_).ar, (s l.to_).an), led := (s l.to_).led }] else []) ∨
  (l.answer = true ∧ l.tell = true ∧ s' = s ∧ ls' = [] ∧ ((R' = R ∧ F' = F) ∨
    ((R l.who).stage = 2 ∧ (l.b.1 = (R l.who).br ∧ l.b.2 = (R l.who).bn) ∧ F l.who l.to_ = false ∧ R' = upd R l.who ((R l.who).took n (F l.who) l.to_) ∧ F' = upd F l.who (upd (F l.who) l.to_ true)))) ∨
  (l.answer = true ∧ l.tell = false ∧ s' = s ∧ ((R' = R ∧ F' = F ∧ ls' = []) ∨
    ((R l.who).stage = 1 ∧ (l.b.1 = (R l.who).br ∧ l.b.2 = (R l.who).bn) ∧ F l.who l.to_ = false ∧ R' = upd R l.who ((R l.who).promised n (F l.who) l.to_ l.ac.1 l.ac.2 l.led) ∧ F' = upd F l.who (promF n (F l.who) l.to_) ∧
      (ls' = [] ∨ ((R' l.who).stage = 2 ∧ ls' = (missL 2 (F' l.who) n).map (fun x => ⟨l.who, x.toNat, true, false, ((R' l.who).br, (R' l.who).bn), (0, 0), (R' l.who).led⟩))))))

theorem missL_rng {s : Int} {f : Nat → Bool} {n : Nat} {x : Int} (h : x ∈ missL s f n) : 0 ≤ x ∧ x.toNat < n := by
  unfold missL at h
  split at h
  · unfold missK at h
    obtain ⟨i, hi, rfl⟩ := List.mem_map.1 h
    have := List.mem_range.1 (List.mem_filter.1 hi).1
    simp; omega
  · cases h

section
variable {n : Nat} {s s' : Nat → Acc} {R R' : Nat → Rnd} {F F' : Nat → Nat → Bool} {v : Vt} {ls ls' : List Let} {l : Let}
theorem Sys13.deliver (h : Sys13 n s R F v ls) (hl : LOk n s v l) (hd : Delv n s R F l s' R' F' ls') : ∃ v', Sys13 n s' R' F' v' (ls ++ ls') ∧ Ext s v s' v' := by
  obtain ⟨q1, q2, q3, q4, q5⟩ := hl
  rcases hd with ⟨h1, h2, rfl, rfl, rfl, rfl⟩ | ⟨h1, h2, rfl, rfl, rfl, rfl⟩ | ⟨h1, h2, rfl, rfl, h3⟩ | ⟨h1, h2, rfl, h3⟩
  · obtain ⟨v', k1, k2, k3⟩ := h.accept q2 l.b.1 l.b.2 (q5 h1 h2)
    refine ⟨v', k1.more (fun l' hl' => ?_), k2⟩
    split at hl'
    · rename_i hr
      rw [List.mem_singleton] at hl'
      subst hl'
      exact ⟨q1, q2, fun _ _ => k3 hr, fun _ e => (by simp only at e; rw [h2] at e; cases e), fun e => (by cases e)⟩
    · cases hl'
  · obtain ⟨k1, k2, k3⟩ := h.prepare q2 l.b.1 l.b.2
    refine ⟨v, k1.more (fun l' hl' => ?_), k2⟩
    split at hl'
    · rename_i hr
      rw [List.mem_singleton] at hl'
      subst hl'
      exact ⟨q1, q2, fun _ e => (by simp only at e; rw [h2] at e; cases e), fun _ _ => k3 hr, fun e => (by cases e)⟩
    · cases hl'
  · rw [List.append_nil]
    rcases h3 with ⟨rfl, rfl⟩ | ⟨k1, k2, k3, rfl, rfl⟩
    · exact ⟨v, h, Ext.refl _ _⟩
    · have hv := q3 h1 h2
      have e : l.b = ((R l.who).br, (R l.who).bn) := by rw [← k2.1, ← k2.2]
      rw [e] at hv
      exact ⟨v, h.accepted q1 k1 q2 hv, Ext.refl _ _⟩
  · rcases h3 with ⟨rfl, rfl, rfl⟩ | ⟨k1, k2, k3, hR, hF, k4⟩
    · rw [List.append_nil]; exact ⟨v, h, Ext.refl _ _⟩
    · have hv := q4 h1 h2
      have e : l.b = ((R l.who).br, (R l.who).bn) := by rw [← k2.1, ← k2.2]
      rw [e] at hv
      obtain ⟨v', m1, m2⟩ := h.promise q1 k1 q2 k3 hv
      rw [← hR, ← hF] at m1
      refine ⟨v', m1.more (fun l' hl' => ?_), m2⟩
      rcases k4 with rfl | ⟨k4, rfl⟩
      · cases hl'
      · obtain ⟨x, hx, rfl⟩ := List.mem_map.1 hl'
        exact ⟨q1, (missL_rng hx).2, fun e => (by cases e), fun e => (by cases e), fun _ _ => ((m1.rounds l.who q1).tel (.inl k4)).1⟩
/-- A round that has begun: its letters. -/
theorem Sys13.begun {i : Nat} (h : Sys13 n s R F v ls) (hi : i < n) (br bn : Int) (hb : bn = i) (hl : lg br bn = true) (ha : ab br bn (R i).br (R i).bn = true) :
    Sys13 n s (upd R i ((R i).began br bn)) (upd F i (fun _ => false)) v (ls ++ (missL 1 (fun _ => false) n).map (fun x => ⟨i, x.toNat, false, false, (br, bn), (0, 0), []⟩)) := by
  subst hb
  refine (h.begins hi br hl ha _ rfl rfl rfl rfl rfl rfl).more (fun l' hl' => ?_)
  obtain ⟨x, hx, rfl⟩ := List.mem_map.1 hl'
  exact ⟨hi, (missL_rng hx).2, fun e => (by cases e), fun e => (by cases e), fun _ e => (by cases e)⟩
end
end Go.Proofs.YtnlncfjibbdimaaDoor

namespace Go.Proofs.YtnlncfjibbdimaaDoor
open Go.RowKit
set_option linter.unusedSimpArgs false
set_option linter.unusedVariables false

/-- The net where a letter comes in: the slices of its pointers, the letter's ledger. -/
structure DelIn (M : Nat → Prop) (w : World) (B n : Nat) (g gr ga : Nat → Nat) (s : Nat → Acc) (R : Nat → Rnd) (F : Nat → Nat → Bool) (pv lv : Nat → Value) (A : Nat → Addr) (Aa Ar : Option Addr) (i j : Nat) (led : List Cmd) (ov : Value) : Prop where
  net : NetF M w B n g gr ga s R F pv lv
  as_ : PtrsF M w Aa n g
  rs : PtrsF M w Ar n gr
  led : Lf M w ov led
  hi : i < n
  hj : j < n
  e13 : E13 w A

/-- What a delivery comes to, in memory. -/
def DelPost (M : Nat → Prop) (B n : Nat) (g gr ga : Nat → Nat) (s : Nat → Acc) (R : Nat → Rnd) (F : Nat → Nat → Bool) (pv : Nat → Value) (l : Let) (w : World) (e : Ending) (w' : World) : Prop :=
  ∃ v ps s' R' F' lv', e = .returned v ∧ LetsAt M w' w.heap.size v ps ∧ NetF M w' B n g gr ga s' R' F' pv lv' ∧ Fr w.heap.size (NetO n g gr ga) w w' ∧ Delv n s R F l s' R' F' (ps.map (·.1))

section
variable {M : Nat → Prop} {w w' w0 : World} {B n i j : Nat} {g gr ga : Nat → Nat} {s : Nat → Acc} {R : Nat → Rnd} {F : Nat → Nat → Bool} {pv lv : Nat → Value} {A : Nat → Addr} {Aa Ar : Option Addr} {led : List Cmd} {ov : Value} {br bn ar an : Int}
theorem PtrsF.below {A : Option Addr} (h : PtrsF M w A n g) (b : Below w.heap.size w w') : PtrsF M w' A n g := h.fr (Fr.of_below b (fun _ => False)) (Nat.le_refl _) (fun _ h => h.elim)
theorem DelIn.below (h : DelIn M w B n g gr ga s R F pv lv A Aa Ar i j led ov) (b : Below w.heap.size w w') : DelIn M w' B n g gr ga s R F pv lv A Aa Ar i j led ov :=
  ⟨h.net.below b, h.as_.below b, h.rs.below b, h.led.below b, h.hi, h.hj, h.e13.below b⟩
/-- Behind a call that changed the net. -/
theorem DelIn.next {s' : Nat → Acc} {R' : Nat → Rnd} {F' : Nat → Nat → Bool} {lv' : Nat → Value} (h : DelIn M w B n g gr ga s R F pv lv A Aa Ar i j led ov) (hn : NetF M w' B n g gr ga s' R' F' pv lv') (f : Fr w.heap.size (NetO n g gr ga) w w') : DelIn M w' B n g gr ga s' R' F' pv lv' A Aa Ar i j led ov :=
  ⟨hn, h.as_.fr f (Nat.le_refl _) h.net.om, h.rs.fr f (Nat.le_refl _) h.net.om, h.led.fr f (Nat.le_refl _) h.net.om, h.hi, h.hj, h.net.e13 h.e13 f⟩
theorem DelIn.form (h : DelIn M w B n g gr ga s R F pv lv A Aa Ar i j led ov) : ∃ A0 n0 c0, ov = .slice A0 n0 c0 := by
  obtain ⟨lo, hi, h1, _⟩ := h.led
  obtain ⟨A0, c0, h2, _⟩ := h1.form
  exact ⟨_, _, _, h2⟩
theorem errq_cases (s : Acc) (br bn : Int) (A : Nat → Addr) : (s.refuse br bn = 0 ∧ errq A (s.refuse br bn) = .nilIface) ∨ (s.refuse br bn ≠ 0 ∧ ∃ a, errq A (s.refuse br bn) = errv a) := by
  rcases refuse_cases s br bn with ⟨h1, hr⟩ | ⟨h1, h2, hr⟩ | ⟨h1, h2, hr⟩
  · exact .inr ⟨by rw [hr]; decide, A 0, by rw [hr]; simp [errq]⟩
  · exact .inr ⟨by rw [hr]; decide, A 3, by rw [hr]; simp [errq]⟩
  · exact .inl ⟨hr, by rw [hr]; simp [errq]⟩
theorem DelIn.take (h : DelIn M w B n g gr ga s R F pv lv A Aa Ar i j led ov) (br bn : Int) :
    Calls Tryd.prog 32 #[.pointer (some ⟨g j, 0, none⟩), .agg #[.int .i64 br, .int .i64 bn], ov] w fun e w' => e = .returned (errq A ((s j).refuse br bn)) ∧ NetF M w' B n g gr ga (upd s j ((s j).take br bn led)) R F pv lv ∧ Fr w.heap.size (NetO n g gr ga) w w' := by
  obtain ⟨lo, hi, hA, hlo⟩ := h.net.accs.acc j h.hj
  obtain ⟨lo1, hi1, hL, hhi, hm⟩ := h.led
  refine (accept_l (A := A) (r := br) (n := bn) hA h.net.accs.hB (h.e13 0 (by simp)) (h.e13 3 (by simp)) hL hhi (hm _ (h.net.accs.in_ j h.hj))).mono ?_
  rintro e w' ⟨rfl, f, lo', hi', hA', hmv⟩
  refine ⟨rfl, h.net.acc h.hj f ⟨lo', hi', hA', fun m hm' => ?_⟩, frO_acc h.hj f⟩
  rcases hmv with ⟨rfl, rfl⟩ | hmv
  · exact hlo m hm'
  · exact .inl (Nat.lt_of_lt_of_le (h.net.lt m hm').2 hmv)
theorem DelIn.prep (h : DelIn M w B n g gr ga s R F pv lv A Aa Ar i j led ov) (br bn : Int) :
    Calls Tryd.prog 31 #[.pointer (some ⟨g j, 0, none⟩), .agg #[.int .i64 br, .int .i64 bn]] w fun e w' => ∃ C k c, e = .returned (.tuple #[.agg #[.int .i64 ((s j).toldR br bn), .int .i64 ((s j).toldN br bn)], .slice C k c, errq A ((s j).refuse br bn)]) ∧
      NetF M w' B n g gr ga (upd s j ((s j).prep br bn)) R F pv lv ∧ Fr w.heap.size (NetO n g gr ga) w w' ∧ Lf M w' (.slice C k c) ((s j).toldL br bn) := by
  obtain ⟨lo, hi, hA, hlo⟩ := h.net.accs.acc j h.hj
  refine (prepare_l (A := A) (r := br) (n := bn) hA (h.e13 0 (by simp)) (h.e13 3 (by simp))).mono ?_
  rintro e w' ⟨C, k, c, rfl, f, hA', o⟩
  exact ⟨C, k, c, rfl, h.net.acc h.hj f ⟨lo, hi, hA', hlo⟩, frO_acc h.hj f, Lf.own13 o (Nat.le_refl _) (fun m hm => (h.net.lt m hm).2)⟩
theorem Fr.two13 (w : World) (q : Nat) (u u' : Value) : Fr w.heap.size (· = q) w ((w.setCell ⟨q, 0, none⟩ u).setCell ⟨q, 1, none⟩ u') := ((Fr.refl w.heap.size (· = q) w).setCell (p := ⟨q, 0, none⟩) (.inl rfl) u).setCell (p := ⟨q, 1, none⟩) (.inl rfl) u'
theorem NetF.weak {M' : Nat → Prop} (h : NetF M' w B n g gr ga s R F pv lv) (hM : ∀ k, M k → M' k) (hO : ∀ k, NetO n g gr ga k → M k) : NetF M w B n g gr ga s R F pv lv :=
  ⟨h.accs.grow (fun m hm => .inl (hM m hm)) (fun i hi => hO _ ⟨i, hi, .inl rfl⟩), fun i hi => (h.rnds i hi).grow (fun m hm => .inl (hM m hm)) (hO _ ⟨i, hi, .inr (.inl rfl)⟩) (hO _ ⟨i, hi, .inr (.inr rfl)⟩), h.inj, fun m hm => h.lt m (hM m hm), h.pos⟩
/-- One block more that may change. -/
theorem DelIn.more {q : Nat} (h : DelIn M w B n g gr ga s R F pv lv A Aa Ar i j led ov) (b : Below w.heap.size w w') (h1 : w.heap.size ≤ q) (h2 : q < w'.heap.size) : DelIn (fun k => M k ∨ k = q) w' B n g gr ga s R F pv lv A Aa Ar i j led ov := by
  have hM : ∀ m, M m ∨ m = q → M m ∨ w.heap.size ≤ m := fun m hm => hm.imp id (fun e => by omega)
  have h11 := h.net.lt _ (h.net.accs.in_ i h.hi)
  refine ⟨⟨(h.net.accs.grow hM (fun i hi => .inl (h.net.accs.in_ i hi))).below b (Nat.le_refl _), fun i hi => ((h.net.rnds i hi).grow hM (.inl (h.net.rnds i hi).mg) (.inl (h.net.rnds i hi).mga)).below b, h.net.inj, fun m hm => ?_, h.net.pos⟩, (h.as_.grow hM).below b, (h.rs.grow hM).below b, (h.led.grow hM).below b, h.hi, h.hj, h.e13.below b⟩
  rcases hm with hm | rfl
  · exact ⟨(h.net.lt m hm).1, Nat.lt_of_lt_of_le (h.net.lt m hm).2 b.size⟩
  · exact ⟨by omega, h2⟩
/-- .. where the block for the ballot that comes back was made ahead. -/
theorem DelIn.prepB (h : DelIn M w B n g gr ga s R F pv lv A Aa Ar i j led ov) (br bn : Int) (t : TypeId) (cs : Array Value) :
    Calls Tryd.prog 31 #[.pointer (some ⟨g j, 0, none⟩), .agg #[.int .i64 br, .int .i64 bn]] ((w.alloc (.cells cs t)).drew) fun e w' => ∃ C k c, e = .returned (.tuple #[.agg #[.int .i64 ((s j).toldR br bn), .int .i64 ((s j).toldN br bn)], .slice C k c, errq A ((s j).refuse br bn)]) ∧
      (∀ u u', NetF M ((w'.setCell ⟨w.heap.size, 0, none⟩ u).setCell ⟨w.heap.size, 1, none⟩ u') B n g gr ga (upd s j ((s j).prep br bn)) R F pv lv ∧ Fr w.heap.size (NetO n g gr ga) w ((w'.setCell ⟨w.heap.size, 0, none⟩ u).setCell ⟨w.heap.size, 1, none⟩ u') ∧ Lf M ((w'.setCell ⟨w.heap.size, 0, none⟩ u).setCell ⟨w.heap.size, 1, none⟩ u') (.slice C k c) ((s j).toldL br bn)) ∧
      Fr ((w.alloc (.cells cs t)).drew).heap.size (NetO n g gr ga) ((w.alloc (.cells cs t)).drew) w' := by
  have b : Below w.heap.size w ((w.alloc (.cells cs t)).drew) := ((Below.refl _ _).alloc (Nat.le_refl _) _).drew
  have D := h.more b (Nat.le_refl _) (by simp)
  refine (D.prep br bn).mono ?_
  rintro e w' ⟨C, k, c, rfl, N, f, l⟩
  have hO : ∀ k, NetO n g gr ga k → M k := h.net.om
  have hq : ∀ k, k = w.heap.size → ¬ NetO n g gr ga k := fun k hk ho => by have := (h.net.lt k (hO k ho)).2; omega
  refine ⟨C, k, c, rfl, fun u u' => ?_, f⟩
  have f2 := Fr.two13 w' w.heap.size u u'
  refine ⟨(N.fr f2 (Nat.le_refl _) (fun k hk => .inr hk) hq).weak (fun _ h => .inl h) hO, ?_, (l.fr f2 (Nat.le_refl _) (fun k hk => .inr hk)).grow (fun _ h => .inl (.inl h))⟩
  have hb := b.size
  exact ((Fr.of_below b _).trans (f.mono hb (fun _ _ h => h))).trans (f2.mono (Nat.le_trans hb f.size) (fun k h1 h2 => by omega))
theorem DelIn.acced (h : DelIn M w B n g gr ga s R F pv lv A Aa Ar i j led ov) (br bn : Int) :
    Calls Tryd.prog 62 #[.pointer (some ⟨gr i, 0, none⟩), .int .i64 j, .agg #[.int .i64 br, .int .i64 bn]] w fun e w' => ∃ b R' F' lv', e = .returned (.bool b) ∧ NetF M w' B n g gr ga s R' F' pv lv' ∧ Fr w.heap.size (NetO n g gr ga) w w' ∧
      ((R' = R ∧ F' = F) ∨ ((R i).stage = 2 ∧ (br = (R i).br ∧ bn = (R i).bn) ∧ F i j = false ∧ R' = upd R i ((R i).took n (F i) j) ∧ F' = upd F i (upd (F i) j true))) := by
  by_cases hf : (R i).stage = 2 ∧ (br = (R i).br ∧ bn = (R i).bn) ∧ F i j = false
  · obtain ⟨h1, h2, h3⟩ := hf
    refine ((h.net.rnds i h.hi).accepted_yes (fun m hm => (h.net.lt m hm).2) h1 h2 h.hj h3).mono ?_
    rintro e w' ⟨rfl, r, f⟩
    exact ⟨true, _, _, _, rfl, h.net.rnd h.hi f r, frO_rnd h.hi f, .inr ⟨h1, h2, h3, rfl, rfl⟩⟩
  · refine ((h.net.rnds i h.hi).accepted_no (from_ := j) (br := br) (bn := bn) (fun hh => hf ?_)).mono ?_
    · obtain ⟨h1, h2, j', h3, h4, h5⟩ := hh
      obtain rfl : j' = j := by omega
      exact ⟨h1, h2, h5⟩
    · rintro e w' ⟨rfl, b⟩
      exact ⟨false, R, F, lv, rfl, h.net.below b, Fr.of_below b _, .inl ⟨rfl, rfl⟩⟩
theorem DelIn.prom (h : DelIn M w B n g gr ga s R F pv lv A Aa Ar i j led ov) (br bn ar an : Int) :
    Calls Tryd.prog 58 #[.pointer (some ⟨gr i, 0, none⟩), .int .i64 j, .agg #[.int .i64 br, .int .i64 bn], .agg #[.int .i64 ar, .int .i64 an], ov] w fun e w' => ∃ b R' F' lv', e = .returned (.bool b) ∧ NetF M w' B n g gr ga s R' F' pv lv' ∧ Fr w.heap.size (NetO n g gr ga) w w' ∧
      ((b = false ∧ R' = R ∧ F' = F) ∨ (b = true ∧ (R i).stage = 1 ∧ (br = (R i).br ∧ bn = (R i).bn) ∧ F i j = false ∧ R' = upd R i ((R i).promised n (F i) j ar an led) ∧ F' = upd F i (promF n (F i) j))) := by
  obtain ⟨lo1, hi1, hL, hhi, hm⟩ := h.led
  by_cases hf : (R i).stage = 1 ∧ (br = (R i).br ∧ bn = (R i).bn) ∧ F i j = false
  · obtain ⟨h1, h2, h3⟩ := hf
    refine ((h.net.rnds i h.hi).promise_yes (fun m hm => (h.net.lt m hm).2) h.net.pos (ar := ar) (an := an) hL hhi (hm _ (h.net.rnds i h.hi).mga) (A 4) (h.e13 4 (by simp)) h1 h2 h.hj h3).mono ?_
    rintro e w' ⟨rfl, lv', r, f⟩
    exact ⟨true, _, _, _, rfl, h.net.rnd h.hi f r, frO_rnd h.hi f, .inr ⟨rfl, h1, h2, h3, rfl, rfl⟩⟩
  · refine ((h.net.rnds i h.hi).promise_no h.net.pos (from_ := j) (br := br) (bn := bn) (ar := ar) (an := an) hL hhi (hm _ (h.net.rnds i h.hi).mga) (A 4) (h.e13 4 (by simp)) (fun hh => hf ?_)).mono ?_
    · obtain ⟨h1, h2, j', h3, h4, h5⟩ := hh
      obtain rfl : j' = j := by omega
      exact ⟨h1, h2, h5⟩
    · rintro e w' ⟨rfl, b⟩
      exact ⟨false, R, F, lv, rfl, h.net.below b, Fr.of_below b _, .inl ⟨rfl, rfl, rfl⟩⟩
/-- One letter, in a block of the call's own. -/
theorem LetsAt.one (l : Let) (hb : w0.heap.size ≤ w.heap.size) (h : Lf M w ov l.led) : LetsAt M (w.alloc (.cells (l.cells ov).toArray 131)) w0.heap.size (.slice (some ⟨w.heap.size, 0, none⟩) 1 1) [(l, ov)] := by
  refine ⟨?_, fun p hp => ?_⟩
  · exact ⟨by simp [letc, Let.cells], .inr ⟨w.heap.size, 1, (l.cells ov).toArray, rfl, hb, heap_alloc_new w _, Nat.le_refl _, by simp [maxLen], by simp [Let.cells], by simp [letc, Let.cells]⟩⟩
  · rw [List.mem_singleton] at hp
    subst hp
    exact h.below ((Below.refl _ _).alloc (Nat.le_refl _) _)
end
end Go.Proofs.YtnlncfjibbdimaaDoor
