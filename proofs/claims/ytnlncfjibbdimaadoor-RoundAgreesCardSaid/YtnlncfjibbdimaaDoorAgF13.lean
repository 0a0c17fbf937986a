/-
  RoundAgrees: the net with its letters that wait and the ledgers that rounds were done with, in memory. No walk stands here.
  RoundAgrees: acceptors and rounds while they are made; the net at its start. No walk stands here.
-/
import Derived.Test.YtnlncfjibbdimaaDoorAgE13
import Derived.Test.YtnlncfjibbdimaaDoorAlive9
namespace Go.Proofs.YtnlncfjibbdimaaDoor
open Go.RowKit
set_option linter.unusedSimpArgs false
set_option linter.unusedVariables false

theorem own_blk14 {w : World} {base e size n k : Nat} {v : Value} {xs : List Value} (h : w.ownsRow base e size v n xs) (hk : v.ownBlock = some k) : ∃ cs, Blk w k e cs := by
  rcases h.2 with ⟨rfl, _⟩ | ⟨g, cap, cur, rfl, _, hh, _⟩
  · simp [Value.ownBlock] at hk
  · simp [Value.ownBlock] at hk
    subst hk
    exact ⟨cur, hh⟩
/-- The net: acceptors, rounds, the slices of their pointers, the errors; the plain side. M: the blocks that change, all made since W. -/
structure Core (W : World) (M : Nat → Prop) (w : World) (B n : Nat) (g gr ga : Nat → Nat) (s : Nat → Acc) (R : Nat → Rnd) (F : Nat → Nat → Bool) (v : Vt) (ls : List Let) (pv lv : Nat → Value) (A : Nat → Addr) (Aa Ar : Option Addr) : Prop where
  net : NetF M w B n g gr ga s R F pv lv
  as_ : PtrsF M w Aa n g
  rs : PtrsF M w Ar n gr
  e13 : E13 w A
  sys : Sys13 n s R F v ls
  rd : ∀ i, i < n → (R i).reads = decide (i = 3)
  low : ∀ m, M m → W.heap.size ≤ m
  bel : Below W.heap.size W w
/-- Letters that wait. -/
structure LetS (W : World) (M : Nat → Prop) (w : World) (Lv : Value) (ps : List (Let × Value)) (ls : List Let) : Prop where
  row : w.ownsRow W.heap.size 131 9 Lv ps.length (letc ps)
  own : ∀ q, Lv.ownBlock = some q → M q
  led : ∀ p ∈ ps, Lf M w p.2 p.1.led
  sub : ∀ p ∈ ps, p.1 ∈ ls
/-- Ledgers that a round was done with. -/
structure DonS (W : World) (M : Nat → Prop) (w : World) (Dv : Value) (ds : List (List Cmd × Value)) (n : Nat) (v : Vt) : Prop where
  row : w.ownsRow W.heap.size 46 1 Dv ds.length (ds.map (·.2))
  own : ∀ q, Dv.ownBlock = some q → M q
  led : ∀ d ∈ ds, Lf M w d.2 d.1
  don : ∀ d ∈ ds, DoneL n v d.1

section
variable {W w w2 : World} {M M' S : Nat → Prop} {B n : Nat} {g gr ga : Nat → Nat} {s s' : Nat → Acc} {R R' : Nat → Rnd} {F F' : Nat → Nat → Bool} {v v' : Vt} {ls ls' : List Let} {pv lv lv' : Nat → Value} {A : Nat → Addr} {Aa Ar : Option Addr} {Lv Lv' Dv Dv' : Value} {ps ps' : List (Let × Value)} {ds : List (List Cmd × Value)}
theorem NetF.notRow {t q : Nat} {cs : Array Value} (h : NetF M w B n g gr ga s R F pv lv) (hb : Blk w q t cs) (h1 : t ≠ 156) (h2 : t ≠ 199) (h3 : t ≠ 4) : ¬ NetO n g gr ga q := fun ⟨i, hi, e⟩ => by
  rcases e with rfl | rfl | rfl
  · obtain ⟨_, _, ⟨_, _, _, u, hu, _⟩, _⟩ := h.accs.acc i hi
    exact blk_ne13 hb hu h1 rfl
  · exact blk_ne13 hb (h.rnds i hi).row h2 rfl
  · exact blk_ne13 hb (h.rnds i hi).ans h3 rfl
/-- The frame of a step: the blocks S of M turn, none of them the net's; M grows by blocks that are new. -/
structure Stp (M M' S : Nat → Prop) (w w2 : World) : Prop where
  fr : Fr w.heap.size S w w2
  sM : ∀ k, S k → M k
  new : ∀ m, M' m → M m ∨ w.heap.size ≤ m
  up : ∀ m, M m → M' m
  lt : ∀ m, M' m → m < w2.heap.size
theorem NetF.stp (h : NetF M w B n g gr ga s R F pv lv) (t : Stp M M' S w w2) (hO : ∀ k, S k → ¬ NetO n g gr ga k) : NetF M' w2 B n g gr ga s R F pv lv := by
  have hS : ∀ k, S k → M' k := fun k hk => t.up k (t.sM k hk)
  refine ⟨(h.accs.grow t.new (fun i hi => t.up _ (h.accs.in_ i hi))).fr t.fr (Nat.le_refl _) hS (fun i hi hs => hO _ hs ⟨i, hi, .inl rfl⟩),
    fun i hi => ((h.rnds i hi).grow t.new (t.up _ (h.rnds i hi).mg) (t.up _ (h.rnds i hi).mga)).fr t.fr (Nat.le_refl _) hS (fun hs => hO _ hs ⟨i, hi, .inr (.inl rfl)⟩) (fun hs => hO _ hs ⟨i, hi, .inr (.inr rfl)⟩), h.inj, fun m hm => ⟨?_, t.lt m hm⟩, h.pos⟩
  have h0 := h.lt _ (h.accs.in_ 0 h.pos)
  rcases t.new m hm with h1 | h1
  · exact (h.lt m h1).1
  · omega
theorem Lf.stp {u : Value} {l : List Cmd} (h : Lf M w u l) (t : Stp M M' S w w2) : Lf M' w2 u l := (h.grow t.new).fr t.fr (Nat.le_refl _) (fun k hk => t.up k (t.sM k hk))
theorem PtrsF.stp {A : Option Addr} (h : PtrsF M w A n g) (t : Stp M M' S w w2) : PtrsF M' w2 A n g := (h.grow t.new).fr t.fr (Nat.le_refl _) (fun k hk => t.up k (t.sM k hk))
theorem Core.stp (h : Core W M w B n g gr ga s R F v ls pv lv A Aa Ar) (t : Stp M M' S w w2) (hO : ∀ k, S k → ¬ NetO n g gr ga k) : Core W M' w2 B n g gr ga s R F v ls pv lv A Aa Ar := by
  have h0 := h.net.lt _ (h.net.accs.in_ 0 h.net.pos)
  refine ⟨h.net.stp t hO, h.as_.stp t, h.rs.stp t, fun q hq => ?_, h.sys, h.rd, fun m hm => ?_, h.bel.trans ((t.fr.mono h.bel.size (S' := fun _ => False) (fun k k1 k2 => by have := h.low k (t.sM k k2); omega)).below (fun _ _ h => h))⟩
  · exact (t.fr.cell (p := ⟨q, 0, none⟩) (World.block_lt_of_cell? w _ (h.e13 q hq)) (fun hs => by have := (h.net.lt _ (t.sM _ hs)).1; simp only at this; omega)).trans (h.e13 q hq)
  · rcases t.new m hm with h1 | h1
    · exact h.low m h1
    · exact Nat.le_trans h.bel.size h1
theorem LetS.stp (h : LetS W M w Lv ps ls) (t : Stp M M' S w w2) (hS : ∀ k, Lv.ownBlock = some k → ¬ S k) : LetS W M' w2 Lv ps ls :=
  ⟨ownsRow_frS h.row t.fr (Nat.le_refl _) hS, fun q hq => t.up q (h.own q hq), fun p hp => (h.led p hp).stp t, h.sub⟩
theorem DonS.stp (h : DonS W M w Dv ds n v) (t : Stp M M' S w w2) (hS : ∀ k, Dv.ownBlock = some k → ¬ S k) : DonS W M' w2 Dv ds n v :=
  ⟨ownsRow_frS h.row t.fr (Nat.le_refl _) hS, fun q hq => t.up q (h.own q hq), fun p hp => (h.led p hp).stp t, h.don⟩
theorem Stp.below (b : Below w.heap.size w w2) (hlt : ∀ m, M m → m < w.heap.size) : Stp M M (fun _ => False) w w2 :=
  ⟨Fr.of_below b _, fun _ h => h.elim, fun _ h => .inl h, fun _ h => h, fun m hm => Nat.lt_of_lt_of_le (hlt m hm) b.size⟩
theorem Core.lt (h : Core W M w B n g gr ga s R F v ls pv lv A Aa Ar) : ∀ m, M m → m < w.heap.size := fun m hm => (h.net.lt m hm).2
theorem Core.below (h : Core W M w B n g gr ga s R F v ls pv lv A Aa Ar) (b : Below w.heap.size w w2) : Core W M w2 B n g gr ga s R F v ls pv lv A Aa Ar := h.stp (Stp.below b h.lt) (fun _ h => h.elim)
theorem LetS.below (h : LetS W M w Lv ps ls) (b : Below w.heap.size w w2) (hlt : ∀ m, M m → m < w.heap.size) : LetS W M w2 Lv ps ls := h.stp (Stp.below b hlt) (fun _ _ h => h)
theorem DonS.below (h : DonS W M w Dv ds n v) (b : Below w.heap.size w w2) (hlt : ∀ m, M m → m < w.heap.size) : DonS W M w2 Dv ds n v := h.stp (Stp.below b hlt) (fun _ _ h => h)
/-- Behind a call that changed the net. -/
theorem Core.turn (h : Core W M w B n g gr ga s R F v ls pv lv A Aa Ar) (N : NetF M w2 B n g gr ga s' R' F' pv lv') (f : Fr w.heap.size (NetO n g gr ga) w w2) (hs : Sys13 n s' R' F' v' ls') (hr : ∀ i, i < n → (R' i).reads = decide (i = 3)) : Core W M w2 B n g gr ga s' R' F' v' ls' pv lv' A Aa Ar :=
  ⟨N, h.as_.fr f (Nat.le_refl _) h.net.om, h.rs.fr f (Nat.le_refl _) h.net.om, h.net.e13 h.e13 f, hs, hr, h.low, h.bel.trans ((f.mono h.bel.size (S' := fun _ => False) (fun k k1 k2 => by have := h.low k (h.net.om k k2); omega)).below (fun _ _ h => h))⟩
theorem Core.stpN (h : Core W M w B n g gr ga s R F v ls pv lv A Aa Ar) (f : Fr w.heap.size (NetO n g gr ga) w w2) : Stp M M (NetO n g gr ga) w w2 :=
  ⟨f, h.net.om, fun _ h => .inl h, fun _ h => h, fun m hm => Nat.lt_of_lt_of_le (h.lt m hm) f.size⟩
theorem LetS.more (h : LetS W M w Lv ps ls) (hs : ∀ l ∈ ls, l ∈ ls') : LetS W M w Lv ps ls' := ⟨h.row, h.own, h.led, fun p hp => hs _ (h.sub p hp)⟩
theorem DonS.ext (h : DonS W M w Dv ds n v) (e : Ext s v s' v') : DonS W M w Dv ds n v' := ⟨h.row, h.own, h.led, fun d hd => (h.don d hd).ext e⟩
theorem Core.notL (h : Core W M w B n g gr ga s R F v ls pv lv A Aa Ar) (hl : LetS W M w Lv ps ls') : ∀ k, Lv.ownBlock = some k → ¬ NetO n g gr ga k := fun k hk => by
  obtain ⟨cs, hb⟩ := own_blk14 hl.row hk
  exact h.net.notRow hb (by decide) (by decide) (by decide)
theorem Core.notD (h : Core W M w B n g gr ga s R F v ls pv lv A Aa Ar) (hd : DonS W M w Dv ds n v') : ∀ k, Dv.ownBlock = some k → ¬ NetO n g gr ga k := fun k hk => by
  obtain ⟨cs, hb⟩ := own_blk14 hd.row hk
  exact h.net.notRow hb (by decide) (by decide) (by decide)
theorem LetS.notD (hl : LetS W M w Lv ps ls) (hd : DonS W M w Dv ds n v) : ∀ k, Lv.ownBlock = some k → Dv.ownBlock ≠ some k := fun k hk e => by
  obtain ⟨cs, hb⟩ := own_blk14 hl.row hk
  obtain ⟨cs', hb'⟩ := own_blk14 hd.row e
  exact blk_ne13 hb hb' (by decide) rfl
/-- The whole: the net, letters and ledgers. -/
structure Agr (W : World) (M : Nat → Prop) (w : World) (B n : Nat) (g gr ga : Nat → Nat) (s : Nat → Acc) (R : Nat → Rnd) (F : Nat → Nat → Bool) (v : Vt) (ls : List Let) (pv lv : Nat → Value) (A : Nat → Addr) (Aa Ar : Option Addr) (Lv Dv : Value) (ps : List (Let × Value)) (ds : List (List Cmd × Value)) : Prop where
  core : Core W M w B n g gr ga s R F v ls pv lv A Aa Ar
  lets : LetS W M w Lv ps ls
  dons : DonS W M w Dv ds n v
theorem Agr.below (h : Agr W M w B n g gr ga s R F v ls pv lv A Aa Ar Lv Dv ps ds) (b : Below w.heap.size w w2) : Agr W M w2 B n g gr ga s R F v ls pv lv A Aa Ar Lv Dv ps ds := ⟨h.core.below b, h.lets.below b h.core.lt, h.dons.below b h.core.lt⟩
theorem Agr.turn (h : Agr W M w B n g gr ga s R F v ls pv lv A Aa Ar Lv Dv ps ds) (N : NetF M w2 B n g gr ga s' R' F' pv lv') (f : Fr w.heap.size (NetO n g gr ga) w w2) (hs : Sys13 n s' R' F' v' ls') (he : Ext s v s' v') (hsub : ∀ l ∈ ls, l ∈ ls') (hr : ∀ i, i < n → (R' i).reads = decide (i = 3)) :
    Agr W M w2 B n g gr ga s' R' F' v' ls' pv lv' A Aa Ar Lv Dv ps ds :=
  ⟨h.core.turn N f hs hr, (h.lets.stp (h.core.stpN f) (h.core.notL h.lets)).more hsub, (h.dons.stp (h.core.stpN f) (h.core.notD h.dons)).ext he⟩
/-- Letters are put behind those that wait. -/
theorem Agr.send (h : Agr W M w B n g gr ga s R F v ls pv lv A Aa Ar Lv Dv ps ds) (hl : ∀ p ∈ ps', Lf M w p.2 p.1.led ∧ p.1 ∈ ls) (hrow : w2.ownsRow W.heap.size 131 9 Lv' (ps.length + ps'.length) (letc ps ++ letc ps')) (hg : w.grownBy w2 Lv.ownBlock) (hat : Lv'.ownBlock = Lv.ownBlock ∨ Lv'.ownBlock = some w.heap.size) :
    ∃ M', Agr W M' w2 B n g gr ga s R F v ls pv lv A Aa Ar Lv' Dv (ps ++ ps') ds := by
  have f : Fr w.heap.size (fun q => Lv.ownBlock = some q) w w2 := (Fr.refl _ _ w).grown hg (Nat.le_refl _) (fun q hq => .inl hq)
  have t : Stp M (fun q => M q ∨ Lv'.ownBlock = some q) (fun q => Lv.ownBlock = some q) w w2 := by
    refine ⟨f, h.lets.own, fun m hm => hm.elim .inl (fun e => ?_), fun m hm => .inl hm, fun m hm => hm.elim (fun hm => Nat.lt_of_lt_of_le (h.core.lt m hm) f.size) (fun e => (hrow.lt m e).2)⟩
    rcases hat with e' | e'
    · exact .inl (h.lets.own m (e' ▸ e))
    · rw [e'] at e; injection e with e; exact .inr (Nat.le_of_eq e)
  refine ⟨_, h.core.stp t (h.core.notL h.lets), ⟨by rw [letc_append, List.length_append]; exact hrow, fun q hq => .inr hq, fun p hp => ?_, fun p hp => ?_⟩, h.dons.stp t (fun k hk e => h.lets.notD h.dons k e hk)⟩
  · rcases List.mem_append.1 hp with hp | hp
    · exact (h.lets.led p hp).stp t
    · exact (hl p hp).1.stp t
  · rcases List.mem_append.1 hp with hp | hp
    · exact h.lets.sub p hp
    · exact (hl p hp).2
/-- A new row of letters, all of them known. -/
theorem Agr.drop (h : Agr W M w B n g gr ga s R F v ls pv lv A Aa Ar Lv Dv ps ds) (b : Below w.heap.size w w2) (hl : ∀ p ∈ ps', p ∈ ps) (hrow : w2.ownsRow w.heap.size 131 9 Lv' ps'.length (letc ps')) : ∃ M', Agr W M' w2 B n g gr ga s R F v ls pv lv A Aa Ar Lv' Dv ps' ds ∧ ∀ m, M' m → M m ∨ w.heap.size ≤ m := by
  have t : Stp M (fun q => M q ∨ Lv'.ownBlock = some q) (fun _ => False) w w2 :=
    ⟨Fr.of_below b _, fun _ h => h.elim, fun m hm => hm.imp id (fun e => (hrow.lt m e).1), fun m hm => .inl hm, fun m hm => hm.elim (fun hm => Nat.lt_of_lt_of_le (h.core.lt m hm) b.size) (fun e => (hrow.lt m e).2)⟩
  have hW := h.core.bel.size
  refine ⟨_, ⟨h.core.stp t (fun _ h => h.elim), ⟨⟨hrow.1, hrow.2.imp id (fun ⟨k, cap, cur, e1, e2, r⟩ => ⟨k, cap, cur, e1, Nat.le_trans hW e2, r⟩)⟩, fun q hq => .inr hq, fun p hp => (h.lets.led p (hl p hp)).stp t, fun p hp => h.lets.sub p (hl p hp)⟩, h.dons.stp t (fun _ _ h => h)⟩, t.new⟩
/-- One more ledger that a round was done with. -/
theorem Agr.done {d : List Cmd} {dv : Value} (h : Agr W M w B n g gr ga s R F v ls pv lv A Aa Ar Lv Dv ps ds) (hl : Lf M w dv d) (hd : DoneL n v d) (hrow : w2.ownsRow W.heap.size 46 1 Dv' (ds.length + 1) (ds.map (·.2) ++ [dv])) (hg : w.grownBy w2 Dv.ownBlock) (hat : Dv'.ownBlock = Dv.ownBlock ∨ Dv'.ownBlock = some w.heap.size) :
    ∃ M', Agr W M' w2 B n g gr ga s R F v ls pv lv A Aa Ar Lv Dv' ps (ds ++ [(d, dv)]) := by
  have f : Fr w.heap.size (fun q => Dv.ownBlock = some q) w w2 := (Fr.refl _ _ w).grown hg (Nat.le_refl _) (fun q hq => .inl hq)
  have t : Stp M (fun q => M q ∨ Dv'.ownBlock = some q) (fun q => Dv.ownBlock = some q) w w2 := by
    refine ⟨f, h.dons.own, fun m hm => hm.elim .inl (fun e => ?_), fun m hm => .inl hm, fun m hm => hm.elim (fun hm => Nat.lt_of_lt_of_le (h.core.lt m hm) f.size) (fun e => (hrow.lt m e).2)⟩
    rcases hat with e' | e'
    · exact .inl (h.dons.own m (e' ▸ e))
    · rw [e'] at e; injection e with e; exact .inr (Nat.le_of_eq e)
  refine ⟨_, h.core.stp t (h.core.notD h.dons), h.lets.stp t (fun k hk e => h.lets.notD h.dons k hk e), ⟨by simpa using hrow, fun q hq => .inr hq, fun p hp => ?_, fun p hp => ?_⟩⟩
  · rcases List.mem_append.1 hp with hp | hp
    · exact (h.dons.led p hp).stp t
    · rw [List.mem_singleton] at hp; subst hp; exact hl.stp t
  · rcases List.mem_append.1 hp with hp | hp
    · exact h.dons.don p hp
    · rw [List.mem_singleton] at hp; subst hp; exact hd
/-- Letter k, as its cells. -/
theorem letc_get {k : Nat} {p : Let × Value} (h : ps[k]? = some p) (j : Nat) (hj : j < 9) : (letc ps)[k * 9 + j]? = (p.1.cells p.2)[j]? := by
  induction ps generalizing k with
  | nil => simp at h
  | cons q qs ih =>
    have e : letc (q :: qs) = q.1.cells q.2 ++ letc qs := rfl
    cases k with
    | zero =>
      simp at h; subst h
      rw [e, List.getElem?_append_left (by rw [Let.cells_length]; omega)]; simp
    | succ k =>
      simp at h
      have h1 := ih h
      rw [e, List.getElem?_append_right (by rw [Let.cells_length]; omega), Let.cells_length, show (k + 1) * 9 + j - 9 = k * 9 + j by omega]
      exact h1
theorem LetS.at_ {k : Nat} {p : Let × Value} (h : LetS W M w Lv ps ls) (hk : ps[k]? = some p) : ∃ q cap, Lv = .slice (some ⟨q, 0, none⟩) ps.length cap ∧ w.rangeAt q (k * 9) (p.1.cells p.2) := by
  have hk' := (List.getElem?_eq_some_iff.1 hk).1
  rcases h.row.2 with ⟨_, h0⟩ | ⟨q, cap, cur, e1, e2, e3, e4, e5, e6, e7⟩
  · omega
  · refine ⟨q, cap, e1, fun j u hu => ?_⟩
    have hj : j < 9 := by have := (List.getElem?_eq_some_iff.1 hu).1; rwa [Let.cells_length] at this
    have hb : Blk w q 131 cur := e3
    rw [hb.cell]
    have h1 := letc_get hk j hj
    rw [hu, ← e7, List.getElem?_take] at h1
    split at h1
    · rw [← Array.getElem?_toList]; exact h1
    · cases h1
end
end Go.Proofs.YtnlncfjibbdimaaDoor

namespace Go.Proofs.YtnlncfjibbdimaaDoor
open Go.RowKit
set_option linter.unusedSimpArgs false
set_option linter.unusedVariables false

def cN (i : Nat) : Cmd := ⟨10, i, 0, 0, ⟨#[]⟩, ⟨#[]⟩, 0, 0, 0, 0, 0, 0, 0, ⟨#[]⟩, 0, [], i, 0⟩
def rN (i : Nat) : Rnd := ⟨cN i, decide (i = 3), 0, 0, 0, 0, 0, [], 0⟩
theorem cN_sized (i : Nat) : (cN i).Sized := by exact ⟨Nat.zero_le _, Nat.zero_le _, Nat.zero_le _⟩
theorem cN_chk {i : Nat} (h : i < 5) : chkB (cN i) = true := by
  rcases (show i = 0 ∨ i = 1 ∨ i = 2 ∨ i = 3 ∨ i = 4 by omega) with rfl | rfl | rfl | rfl | rfl <;> decide +kernel
theorem newN {w : World} {n i : Nat} {a1 : Addr} (h1 : w.cell? ⟨1, 0, none⟩ = some (errv a1)) (hn : 1 ≤ n ∧ n ≤ 16) (hi : i < 5) :
    Calls Tryd.prog 53 #[.int .i64 n, .agg ((cN i).cells (.slice none 0 0)).toArray, .bool (decide (i = 3))] w (New13Post n (cN i) (decide (i = 3)) w) := by
  have hp : IntsAt w 0 0 (.slice none 0 0) (cN i).parts := ⟨none, 0, rfl, Nat.le_refl _, by simp [maxLen], by simp [cN], ⟨rfl, fun h => absurd h (by simp [cN])⟩⟩
  by_cases h3 : i = 3
  · rw [decide_eq_true h3]
    exact new13_reads w n (cN i) _ 0 0 hp (Nat.zero_le _) hn
  · rw [decide_eq_false h3]
    exact new13_cmd w n (cN i) (cN_sized i) _ 0 0 hp (Nat.zero_le _) hn a1 h1 (cN_chk hi)

theorem eq3_13 (i : Nat) : ((i : Int) == 3) = decide (i = 3) := by
  by_cases h : i = 3
  · subst h; rfl
  · rw [decide_eq_false h]
    simp only [beq_eq_false_iff_ne, ne_eq]
    omega
theorem newN' {w : World} {n i : Nat} {a1 : Addr} (h1 : w.cell? ⟨1, 0, none⟩ = some (errv a1)) (hn : 1 ≤ n ∧ n ≤ 16) (hi : i < 5) :
    Calls Tryd.prog 53 #[.int .i64 n, .agg ((cN i).cells (.slice none 0 0)).toArray, .bool ((i : Int) == 3)] w (New13Post n (cN i) (decide (i = 3)) w) := by
  rw [eq3_13]; exact newN h1 hn hi
theorem row_at13 {w : World} {base e size n : Nat} {v : Value} {xs : List Value} (h : w.ownsRow base e size v n xs) (hn : 0 < n) : ∃ k cap cur, v = .slice (some ⟨k, 0, none⟩) n cap ∧ n ≤ cap ∧ cap ≤ maxLen ∧ Blk w k e cur ∧ cur.size = cap * size ∧ ∀ (j : Nat) (u : Value), xs[j]? = some u → cur[j]? = some u := by
  rcases h.2 with ⟨_, h2⟩ | ⟨k, cap, cur, he, hb, hh, h1, h2, h3, h4⟩
  · omega
  · refine ⟨k, cap, cur, he, h1, h2, hh, h3, fun j u hj => ?_⟩
    rw [← h4, List.getElem?_take] at hj
    split at hj
    · rw [← Array.getElem?_toList]; exact hj
    · cases hj
theorem row_form13 {w : World} {base e size n : Nat} {v : Value} {xs : List Value} (h : w.ownsRow base e size v n xs) : ∃ A cap, v = .slice A n cap ∧ n ≤ cap ∧ cap ≤ maxLen := by
  rcases h.2 with ⟨rfl, rfl⟩ | ⟨k, cap, cur, he, hb, hh, h1, h2, h3, h4⟩
  · exact ⟨none, 0, rfl, Nat.le_refl _, by simp [maxLen]⟩
  · exact ⟨_, _, he, h1, h2⟩
/-- k of them are made. -/
structure Made13 (W : World) (n : Nat) (g gr ga : Nat → Nat) (pv : Nat → Value) (k : Nat) (av rv : Value) (w : World) : Prop where
  rowA : w.ownsRow W.heap.size 32 1 av k (ptrs g k)
  rowR : w.ownsRow W.heap.size 97 1 rv k (ptrs gr k)
  acc : ∀ i : Nat, i < k → Blk w (g i) 156 ((Acc.new (i : Int)).cells (.slice none 0 0))
  rnd : ∀ i, i < k → Blk w (gr i) 199 ((rN i).cells (.slice (some ⟨ga i, 0, none⟩) n n) (pv i) (.slice none 0 0)).toArray
  ans : ∀ i, i < k → Blk w (ga i) 4 (bls (fun _ => false) n)
  pvf : ∀ i, i < k → ∃ A c, pv i = .slice A 0 c ∧ c ≤ maxLen
  lea : ∀ i, i < k → W.heap.size ≤ g i ∧ W.heap.size ≤ gr i ∧ W.heap.size ≤ ga i
  mono : ∀ i j, i < j → j < k → g i < g j ∧ gr i < gr j ∧ ga i < ga j
  bel : Below W.heap.size W w
theorem ptrs_upd {g : Nat → Nat} {k G : Nat} : ptrs (upd g k G) (k + 1) = ptrs g k ++ [.pointer (some ⟨G, 0, none⟩)] := by
  unfold ptrs
  rw [List.range_succ, List.map_append]
  congr 1
  · apply List.map_congr_left
    intro i hi
    rw [upd_other _ _ (by have := List.mem_range.1 hi; omega)]
  · simp [upd]
section
variable {W w w3 w5 : World} {n k G GR GA : Nat} {g gr ga : Nat → Nat} {pv : Nat → Value} {av rv av' rv' pv' : Value}
theorem Made13.step (h : Made13 W n g gr ga pv k av rv w) (b3 : Below w.heap.size w w3) (hG : w.heap.size ≤ G) (hGR : w.heap.size ≤ GR) (hGA : w.heap.size ≤ GA) (BG : Blk w3 G 156 ((Acc.new (k : Int)).cells (.slice none 0 0)))
    (BR : Blk w3 GR 199 ((rN k).cells (.slice (some ⟨GA, 0, none⟩) n n) pv' (.slice none 0 0)).toArray) (BA : Blk w3 GA 4 (bls (fun _ => false) n)) (hpv : ∃ A c, pv' = .slice A 0 c ∧ c ≤ maxLen)
    (f : Fr w3.heap.size (fun q => av.ownBlock = some q ∨ rv.ownBlock = some q) w3 w5) (rA : w5.ownsRow W.heap.size 32 1 av' (k + 1) (ptrs g k ++ [.pointer (some ⟨G, 0, none⟩)])) (rR : w5.ownsRow W.heap.size 97 1 rv' (k + 1) (ptrs gr k ++ [.pointer (some ⟨GR, 0, none⟩)])) :
    Made13 W n (upd g k G) (upd gr k GR) (upd ga k GA) (upd pv k pv') (k + 1) av' rv' w5 := by
  have hW := h.bel.size
  have hO : ∀ {q t : Nat} {cs : Array Value}, Blk w3 q t cs → t ≠ 32 → t ≠ 97 → ¬ (av.ownBlock = some q ∨ rv.ownBlock = some q) := fun {q t cs} hb h1 h2 e => by
    rcases e with e | e
    · obtain ⟨cs', hc⟩ := own_blk14 h.rowA e
      exact blk_ne13 hb (hc.below b3 hc.lt) h1 rfl
    · obtain ⟨cs', hc⟩ := own_blk14 h.rowR e
      exact blk_ne13 hb (hc.below b3 hc.lt) h2 rfl
  have kp : ∀ {q t : Nat} {cs : Array Value}, Blk w3 q t cs → t ≠ 32 → t ≠ 97 → Blk w5 q t cs := fun hb h1 h2 => hb.fr f hb.lt (hO hb h1 h2)
  refine ⟨by rw [ptrs_upd]; exact rA, by rw [ptrs_upd]; exact rR, fun i hi => ?_, fun i hi => ?_, fun i hi => ?_, fun i hi => ?_, fun i hi => ?_, fun i j hij hj => ?_, ?_⟩
  · by_cases e : i = k
    · subst e; rw [upd_same]; exact kp BG (by decide) (by decide)
    · rw [upd_other _ _ e]; have hb := h.acc i (by omega); exact kp (hb.below b3 hb.lt) (by decide) (by decide)
  · by_cases e : i = k
    · subst e; rw [upd_same, upd_same, upd_same]; exact kp BR (by decide) (by decide)
    · rw [upd_other _ _ e, upd_other _ _ e, upd_other _ _ e]; have hb := h.rnd i (by omega); exact kp (hb.below b3 hb.lt) (by decide) (by decide)
  · by_cases e : i = k
    · subst e; rw [upd_same]; exact kp BA (by decide) (by decide)
    · rw [upd_other _ _ e]; have hb := h.ans i (by omega); exact kp (hb.below b3 hb.lt) (by decide) (by decide)
  · by_cases e : i = k
    · subst e; rw [upd_same]; exact hpv
    · rw [upd_other _ _ e]; exact h.pvf i (by omega)
  · by_cases e : i = k
    · subst e; rw [upd_same, upd_same, upd_same]; exact ⟨Nat.le_trans hW hG, Nat.le_trans hW hGR, Nat.le_trans hW hGA⟩
    · rw [upd_other _ _ e, upd_other _ _ e, upd_other _ _ e]; exact h.lea i (by omega)
  · by_cases e : j = k
    · subst e
      rw [upd_other _ _ (show i ≠ j by omega), upd_other _ _ (show i ≠ j by omega), upd_other _ _ (show i ≠ j by omega), upd_same, upd_same, upd_same]
      have h1 := (h.acc i hij).lt
      have h2 := (h.rnd i hij).lt
      have h3 := (h.ans i hij).lt
      omega
    · rw [upd_other _ _ (show i ≠ k by omega), upd_other _ _ (show i ≠ k by omega), upd_other _ _ (show i ≠ k by omega), upd_other _ _ e, upd_other _ _ e, upd_other _ _ e]
      exact h.mono i j hij (by omega)
  · refine h.bel.trans ((b3.mono hW).trans ((f.mono (Nat.le_trans hW b3.size) (S' := fun _ => False) (fun q h1 h2 => ?_)).below (fun _ _ h => h)))
    rcases h2 with e | e
    · have := (h.rowA.lt q e).1; omega
    · have := (h.rowR.lt q e).1; omega

theorem Made13.nil_ (b : Below W.heap.size W w) : Made13 W n g gr ga pv 0 (.slice (some ⟨w.heap.size, 0, none⟩) 0 0) (.slice (some ⟨w.heap.size + 1, 0, none⟩) 0 0) ((w.alloc (.cells #[] 32)).alloc (.cells #[] 97)) := by
  refine ⟨?_, ?_, fun i hi => absurd hi (by omega), fun i hi => absurd hi (by omega), fun i hi => absurd hi (by omega), fun i hi => absurd hi (by omega), fun i hi => absurd hi (by omega), fun i j _ hj => absurd hj (by omega), (b.alloc b.size _).alloc (by have := b.size; simp; omega) _⟩
  · exact (World.ownsRow_made w #[] 0 b.size (by simp [maxLen]) (by simp)).alloc _
  · have := World.ownsRow_made (base := W.heap.size) (e := 97) (size := 1) (w.alloc (.cells #[] 32)) #[] 0 (by have := b.size; simp; omega) (by simp [maxLen]) (by simp)
    rw [World.size_alloc] at this
    exact this
/-- All are made: the net. -/
theorem Made13.start {A : Nat → Addr} {w' : World} (h : Made13 W n g gr ga pv n av rv w) (hE : E13 W A) (hn : 1 ≤ n ∧ n ≤ 16) {Lv Dv : Value} (b : Below w.heap.size w w') (hl : w'.ownsRow w.heap.size 131 9 Lv 0 []) (hd : w'.ownsRow w.heap.size 46 1 Dv 0 []) :
    ∃ M Aa Ar ca cr, av = .slice Aa n ca ∧ rv = .slice Ar n cr ∧ Agr W M w' w'.heap.size n g gr ga (fun i => Acc.new i) rN (fun _ _ => false) ⟨fun _ => none, fun _ _ => false⟩ [] pv (fun _ => .slice none 0 0) A Aa Ar Lv Dv [] [] := by
  have hW := h.bel.size
  have hWw := b.size
  have h11 : 11 ≤ W.heap.size := World.block_lt_of_cell? W _ (hE 10 (by simp))
  obtain ⟨qa, ca, cua, rfl, _, _, hba, hca1, hca2⟩ := row_at13 h.rowA (by omega)
  obtain ⟨qr, cr, cur, rfl, _, _, hbr, hcr1, hcr2⟩ := row_at13 h.rowR (by omega)
  have hM : ∀ m, (NetO n g gr ga m ∨ Lv.ownBlock = some m ∨ Dv.ownBlock = some m) → W.heap.size ≤ m ∧ m < w'.heap.size ∧ m ≠ qa ∧ m ≠ qr := fun m hm => by
    rcases hm with ⟨i, hi, e⟩ | e | e
    · have h1 := h.lea i hi
      have h2 := (h.acc i hi).lt
      have h3 := (h.rnd i hi).lt
      have h4 := (h.ans i hi).lt
      rcases e with rfl | rfl | rfl
      · exact ⟨h1.1, by omega, blk_ne13 (h.acc i hi) hba (by decide), blk_ne13 (h.acc i hi) hbr (by decide)⟩
      · exact ⟨h1.2.1, by omega, blk_ne13 (h.rnd i hi) hba (by decide), blk_ne13 (h.rnd i hi) hbr (by decide)⟩
      · exact ⟨h1.2.2, by omega, blk_ne13 (h.ans i hi) hba (by decide), blk_ne13 (h.ans i hi) hbr (by decide)⟩
    · have h1 := hl.lt m e; have := hba.lt; have := hbr.lt; omega
    · have h1 := hd.lt m e; have := hba.lt; have := hbr.lt; omega
  have inj : ∀ i j, i < n → j < n → i ≠ j → g i ≠ g j ∧ gr i ≠ gr j ∧ ga i ≠ ga j := fun i j hi hj hij => by
    rcases Nat.lt_or_gt_of_ne hij with h1 | h1
    · have := h.mono i j h1 hj; omega
    · have := h.mono j i h1 hi; omega
  have nilP : ∀ i, i < n → ∀ M, IntsP w' M (pv i) (rN i).cmd.parts := fun i hi M => by
    obtain ⟨A1, c1, e, hc⟩ := h.pvf i hi
    exact ⟨A1, c1, e, Nat.zero_le _, hc, by simp [rN, cN], ⟨rfl, fun h => absurd h (by simp [rN, cN])⟩⟩
  refine ⟨fun m => NetO n g gr ga m ∨ Lv.ownBlock = some m ∨ Dv.ownBlock = some m, some ⟨qa, 0, none⟩, some ⟨qr, 0, none⟩, ca, cr, rfl, rfl, ⟨⟨⟨⟨fun i hi => ?_, fun i hi => .inl ⟨i, hi, .inl rfl⟩, fun i j hi hj e => ?_, Nat.le_refl _⟩, fun i hi => ?_, fun i j hi hj hij => (inj i j hi hj hij).2, fun m hm => ⟨by have := (hM m hm).1; omega, (hM m hm).2.1⟩, by omega⟩, ?_, ?_, ?_, Sys13.start n rN (fun i _ => ⟨rfl, rfl, rfl⟩), fun i hi => rfl, fun m hm => (hM m hm).1, h.bel.trans (b.mono hW)⟩, ⟨⟨by simp [letc], ?_⟩, fun q hq => .inr (.inl hq), fun p hp => (by cases hp), fun p hp => (by cases hp)⟩, ⟨⟨rfl, ?_⟩, fun q hq => .inr (.inr hq), fun p hp => (by cases hp), fun p hp => (by cases hp)⟩⟩⟩
  · have hb := h.acc i hi
    exact ⟨w'.heap.size, w'.heap.size, ⟨Nat.lt_of_lt_of_le hb.lt hWw, Nat.le_refl _, Nat.le_refl _, _, hb.below b hb.lt, (OwnLed.nil_ _ _ _).at_⟩, fun m hm => .inl (hM m hm).2.1⟩
  · exact Classical.byContradiction fun hij => (inj i j hi hj hij).1 e
  · have hb1 := h.rnd i hi
    have hb2 := h.ans i hi
    refine ⟨Nat.lt_of_lt_of_le hb1.lt hWw, Nat.lt_of_lt_of_le hb2.lt hWw, blk_ne13 hb1 hb2 (by decide), Nat.le_refl _, hb1.below b hb1.lt, hb2.below b hb2.lt, ⟨0, Nat.zero_le _, Nat.zero_le _, nilP i hi _⟩, LedP.nil_ _ _, hn.2, .inl ⟨i, hi, .inr (.inl rfl)⟩, .inl ⟨i, hi, .inr (.inr rfl)⟩⟩
  · refine ⟨qa, qa + 1, ⟨by simp [ptrs], fun _ => ⟨_, rfl, Nat.le_refl _, Nat.lt_succ_self _, fun j u hu => ?_⟩⟩, by have := hba.lt; omega, fun m hm => by have := (hM m hm).2.2.1; omega⟩
    rw [Addr.add_mid, Nat.zero_add, (hba.below b hba.lt).cell]
    exact hca2 j u hu
  · refine ⟨qr, qr + 1, ⟨by simp [ptrs], fun _ => ⟨_, rfl, Nat.le_refl _, Nat.lt_succ_self _, fun j u hu => ?_⟩⟩, by have := hbr.lt; omega, fun m hm => by have := (hM m hm).2.2.2; omega⟩
    rw [Addr.add_mid, Nat.zero_add, (hbr.below b hbr.lt).cell]
    exact hcr2 j u hu
  · exact fun q hq => ((h.bel.trans (b.mono hW)).cell (p := ⟨q, 0, none⟩) (World.block_lt_of_cell? W _ (hE q hq))).trans (hE q hq)
  · exact hl.2.imp id (fun ⟨k, cap, cur, e1, e2, r⟩ => ⟨k, cap, cur, e1, Nat.le_trans hW e2, r⟩)
  · exact hd.2.imp id (fun ⟨k, cap, cur, e1, e2, r⟩ => ⟨k, cap, cur, e1, Nat.le_trans hW e2, r⟩)
end
end Go.Proofs.YtnlncfjibbdimaaDoor
