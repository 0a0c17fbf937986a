/-
  A round's accepting, in memory: what its loop keeps, step by step. No walk stands here.
-/
import Derived.Test.YtnlncfjibbdimaaDoorCount
namespace Go.Proofs.YtnlncfjibbdimaaDoor
open Go.RowKit
set_option linter.unusedSimpArgs false
set_option linter.unusedVariables false

theorem CountPost.ret {M MG : Nat → Prop} {w w' : World} {ga : Nat} {es : List Ent} {b : Bl} {L : List Cmd} {e : Ending} (h : CountPost M MG w ga es b L e w') : e = .returned (.bool true) := h.1

/-- Since world w: acceptors, the ballots counted, the ledger that is to be accepted. seen: who has accepted; seenF: who has been counted. -/
structure Took (M MG : Nat → Prop) (w : World) (B n half K : Nat) (g : Nat → Nat) (A : Option Addr) (ga : Nat) (es : List Ent) (v : Vt) (r nn : Int) (L : List Cmd) (lv : Value) (M' MG' : Nat → Prop) (s' : Nat → Acc) (es' : List Ent) (seen seenF : Nat → Bool) (w' : World) : Prop where
  accs : AccsF M' w' B n g s'
  ptr : PtrsF M' w' A n g
  ag : AgAt M' MG' w' ga es'
  led : Lf M' w' lv L
  bal : Ballots n half (fun i => aof (s' i)) (vts v (r, nn) seen)
  fair : Fair n (vts v (r, nn) seenF) es'
  len : es'.length = es.length ∨ (es'.length = es.length + 1 ∧ ∃ e ∈ es', e.b = (r, nn))
  short : ∀ i, i < n → (s' i).led.length ≤ K
  up : ∀ m, M m → M' m
  upG : ∀ m, MG m → MG' m
  new : ∀ m, M' m → M m ∨ w.heap.size ≤ m
  lt : ∀ m, M' m → m < w'.heap.size
  newG : ∀ m, MG' m → MG m ∨ w.heap.size ≤ m
  sub : ∀ m, MG' m → M' m
  fr : Fr w.heap.size (fun k => (∃ i, i < n ∧ k = g i) ∨ MG k) w w'
  gN : ∀ i, i < n → ¬ MG (g i) ∧ g i < w.heap.size
  prop : v.prop (r, nn) = some L
  hL : L.length ≤ K

section
variable {M MG M' MG' : Nat → Prop} {w w1 w2 : World} {B n half K ga : Nat} {g : Nat → Nat} {A : Option Addr} {es es' : List Ent} {v : Vt} {r nn : Int} {L : List Cmd} {lv : Value} {s s' : Nat → Acc} {seen seenF : Nat → Bool} {j : Nat}
theorem Took.gG (h : Took M MG w B n half K g A ga es v r nn L lv M' MG' s' es' seen seenF w1) {i : Nat} (hi : i < n) : ¬ MG' (g i) := fun hm => by
  obtain ⟨h1, h2⟩ := h.gN i hi
  rcases h.newG _ hm with h3 | h3
  · exact h1 h3
  · omega
theorem Took.start (hacc : AccsF M w B n g s) (hptr : PtrsF M w A n g) (hag : AgAt M MG w ga es) (hled : Lf M w lv L) (hbal : Ballots n half (fun i => aof (s i)) v) (hfair : Fair n v es) (hp : v.prop (r, nn) = some L) (hun : ∀ i, v.voted (r, nn) i = false)
    (hshort : ∀ i, i < n → (s i).led.length ≤ K) (hL : L.length ≤ K) (hlt : ∀ m, M m → m < w.heap.size) (hsub : ∀ m, MG m → M m) (hgG : ∀ i, i < n → ¬ MG (g i)) : Took M MG w B n half K g A ga es v r nn L lv M MG s es (fun _ => false) (fun _ => false) w := by
  refine ⟨hacc, hptr, hag, hled, by rw [votes_start hun]; exact hbal, by rw [votes_start hun]; exact hfair, .inl rfl, hshort, fun _ h => h, fun _ h => h, fun _ h => .inl h, hlt, fun _ h => .inl h, hsub, Fr.refl _ _ _, fun i hi => ⟨hgG i hi, ?_⟩, hp, hL⟩
  have := hacc.lt hi
  have := hacc.hB
  omega
/-- One block more that changes. -/
theorem Took.more (h : Took M MG w B n half K g A ga es v r nn L lv M' MG' s' es' seen seenF w1) {q : Nat} (hb : Below w1.heap.size w1 w2) (hq : w1.heap.size ≤ q) (hq2 : q < w2.heap.size) : Took M MG w B n half K g A ga es v r nn L lv (fun k => M' k ∨ k = q) MG' s' es' seen seenF w2 := by
  have hM : ∀ m, M' m ∨ m = q → M' m ∨ w1.heap.size ≤ m := fun m hm => by
    rcases hm with h | h
    · exact .inl h
    · exact .inr (by omega)
  have f := Fr.of_below hb (fun _ => False)
  have hs := h.fr.size
  have hs2 := hb.size
  refine ⟨(h.accs.grow hM (fun i hi => .inl (h.accs.in_ i hi))).fr f (Nat.le_refl _) (fun _ h => h.elim) (fun _ _ h => h), (h.ptr.grow hM).fr f (Nat.le_refl _) (fun _ h => h.elim), (h.ag.grow hM (fun _ h => h)).fr f (Nat.le_refl _) (fun _ h => h.elim) (fun _ h => h.elim), (h.led.grow hM).fr f (Nat.le_refl _) (fun _ h => h.elim), h.bal, h.fair, h.len, h.short, fun m hm => .inl (h.up m hm), h.upG, fun m hm => ?_, fun m hm => ?_, h.newG, fun m hm => .inl (h.sub m hm), h.fr.trans (f.mono (by omega) (fun _ _ h => h.elim)), h.gN, h.prop, h.hL⟩
  · rcases hm with hm | hm
    · exact h.new m hm
    · exact .inr (by omega)
  · rcases hm with hm | hm
    · have := h.lt m hm; omega
    · omega
/-- Only a block q that is none of these changes, or nothing does. -/
theorem Took.keep (h : Took M MG w B n half K g A ga es v r nn L lv M' MG' s' es' seen seenF w1) {S : Nat → Prop} (f : Fr w1.heap.size S w1 w2) (hS : ∀ k, S k → M' k ∧ ¬ MG' k ∧ w.heap.size ≤ k) : Took M MG w B n half K g A ga es v r nn L lv M' MG' s' es' seen seenF w2 := by
  have hs := h.fr.size
  refine ⟨h.accs.fr f (Nat.le_refl _) (fun k hk => (hS k hk).1) (fun i hi hk => ?_), h.ptr.fr f (Nat.le_refl _) (fun k hk => (hS k hk).1), h.ag.fr f (Nat.le_refl _) (fun k hk => (hS k hk).1) (fun k hk => (hS k hk).2.1), h.led.fr f (Nat.le_refl _) (fun k hk => (hS k hk).1), h.bal, h.fair, h.len, h.short, h.up, h.upG, h.new, fun m hm => Nat.lt_of_lt_of_le (h.lt m hm) f.size, h.newG, h.sub, h.fr.step f hs (fun k hk hs' => ?_), h.gN, h.prop, h.hL⟩
  · have := (hS _ hk).2.2
    have := (h.gN i hi).2
    omega
  · have := (hS _ hs').2.2
    omega
theorem Took.below (h : Took M MG w B n half K g A ga es v r nn L lv M' MG' s' es' seen seenF w1) (f : Below w1.heap.size w1 w2) : Took M MG w B n half K g A ga es v r nn L lv M' MG' s' es' seen seenF w2 :=
  h.keep (Fr.of_below f (fun _ => False)) (fun _ h => h.elim)
/-- What the acceptor j's call leaves. -/
theorem Took.call (h : Took M MG w B n half K g A ga es v r nn L lv M' MG' s' es' seen seenF w1) {j : Nat} (hj : j < n) (f : Fr w1.heap.size (· = g j) w1 w2) {lo hi lo' hi' : Nat} {t : Acc} (hlo : ∀ m, M' m → m < lo ∨ hi ≤ m) (hA : AccL w2 B lo' hi' (g j) 156 t) (hmv : Moved w1 lo hi lo' hi')
    (ht : t.led.length ≤ K) {seen' : Nat → Bool} (hbal : Ballots n half (fun i => aof (upd s' j t i)) (vts v (r, nn) seen')) : Took M MG w B n half K g A ga es v r nn L lv M' MG' (upd s' j t) es' seen' seenF w2 := by
  have hs := h.fr.size
  have hF : AccF M' w2 B (g j) t := by
    refine ⟨lo', hi', hA, fun m hm => ?_⟩
    rcases hmv with ⟨rfl, rfl⟩ | hmv
    · exact hlo m hm
    · exact .inl (by have := h.lt m hm; omega)
  refine ⟨h.accs.step hj f hF, h.ptr.fr f (Nat.le_refl _) (fun k hk => by rw [hk]; exact h.accs.in_ j hj), h.ag.fr f (Nat.le_refl _) (fun k hk => by rw [hk]; exact h.accs.in_ j hj) (fun k hk => by rw [hk]; exact h.gG hj), h.led.fr f (Nat.le_refl _) (fun k hk => by rw [hk]; exact h.accs.in_ j hj), hbal, h.fair, h.len, fun i hi => ?_, h.up, h.upG, h.new, fun m hm => Nat.lt_of_lt_of_le (h.lt m hm) f.size, h.newG, h.sub, h.fr.step f hs (fun k hk hk' => .inl ⟨j, hj, hk'⟩), h.gN, h.prop, h.hL⟩
  unfold upd
  split
  · exact ht
  · exact h.short i hi
/-- It refuses. -/
theorem Took.refused (h : Took M MG w B n half K g A ga es v r nn L lv M' MG' s' es' seen seenF w1) {j : Nat} (hj : j < n) (hr : (s' j).refuse r nn ≠ 0) (f : Fr w1.heap.size (· = g j) w1 w2) {lo hi lo' hi' : Nat} (hlo : ∀ m, M' m → m < lo ∨ hi ≤ m) (hA : AccL w2 B lo' hi' (g j) 156 ((s' j).take r nn L)) (hmv : Moved w1 lo hi lo' hi') :
    Took M MG w B n half K g A ga es v r nn L lv M' MG' s' es' seen seenF w2 := by
  have e : (s' j).take r nn L = s' j := by unfold Acc.take; rw [if_neg hr]
  rw [e] at hA
  have hb : Ballots n half (fun i => aof (upd s' j (s' j) i)) (vts v (r, nn) seen) := by rw [upd_self]; exact h.bal
  have := h.call hj f hlo hA hmv (h.short j hj) hb
  rw [upd_self] at this
  exact this
/-- It accepts. -/
theorem Took.accept (h : Took M MG w B n half K g A ga es v r nn L lv M' MG' s' es' seen seenF w1) {j : Nat} (hj : j < n) (hr : (s' j).refuse r nn = 0) (f : Fr w1.heap.size (· = g j) w1 w2) {lo hi lo' hi' : Nat} (hlo : ∀ m, M' m → m < lo ∨ hi ≤ m) (hA : AccL w2 B lo' hi' (g j) 156 ((s' j).take r nn L)) (hmv : Moved w1 lo hi lo' hi') :
    Took M MG w B n half K g A ga es v r nn L lv M' MG' (upd s' j ((s' j).take r nn L)) es' (upd seen j true) seenF w2 := by
  have hb := Ballots.take h.bal hj h.prop hr
  have hl : ((s' j).take r nn L).led.length ≤ K := by
    unfold Acc.take
    rw [if_pos hr]
    exact h.hL
  exact h.call hj f hlo hA hmv hl hb
/-- What the counting asks. -/
theorem Took.agreed (h : Took M MG w B n half K g A ga es v r nn L lv M' MG' s' es' (upd seen j true) seen w1) (hj : j < n) (hs : seen j = false) : Agreed half es' (r, nn) L := fun es'' p e0 hb he0 hh e he hc => by
  have hf := h.fair.bump hb hj hs h.prop
  have h0 := (hf e0 (List.mem_of_getElem? he0)).1
  have hb0 : e0.b = (r, nn) := by
    rcases hb with ⟨e1, h1, h2, rfl⟩ | ⟨_, rfl, rfl⟩
    · rw [List.getElem?_set_self (List.getElem?_eq_some_iff.1 h1).1] at he0
      cases he0
      exact h2
    · rw [List.getElem?_append_right (Nat.le_refl _)] at he0
      simp at he0
      rw [← he0]
  have hp := h.prop
  simp only [vts, hb0] at h0
  rw [hp] at h0
  injection h0 with h0
  rw [h0]
  exact hf.agree h.bal he (List.mem_of_getElem? he0) hc hh
theorem Took.few (h : Took M MG w B n half K g A ga es v r nn L lv M' MG' s' es' seen seenF w1) : ∀ e ∈ es', e.c ≤ n := h.fair.few
/-- It has been counted. -/
theorem Took.count (h : Took M MG w B n half K g A ga es v r nn L lv M' MG' s' es' (upd seen j true) seen w1) (hj : j < n) (hs : seen j = false) {e : Ending} (hc : CountPost M' MG' w1 ga es' (r, nn) L e w2) :
    ∃ es'', Took M MG w B n half K g A ga es v r nn L lv (Grew M' w1 w2) (Grew MG' w1 w2) s' es'' (upd seen j true) (upd seen j true) w2 := by
  obtain ⟨_, es'', p, hb, hA, f⟩ := hc
  have hs1 := h.fr.size
  have hs2 := f.size
  have up : ∀ m, Grew M' w1 w2 m → M' m ∨ w1.heap.size ≤ m := fun m hm => hm.up
  have hS : ∀ k, MG' k → Grew M' w1 w2 k := fun k hk => .of (h.sub k hk)
  refine ⟨es'', (h.accs.grow up (fun i hi => .of (h.accs.in_ i hi))).fr f (Nat.le_refl _) hS (fun i hi => h.gG hi), (h.ptr.grow up).fr f (Nat.le_refl _) hS, hA, (h.led.grow up).fr f (Nat.le_refl _) hS, h.bal, h.fair.bump hb hj hs h.prop, ?_, h.short, fun m hm => .of (h.up m hm), fun m hm => .of (h.upG m hm), fun m hm => ?_, fun m hm => ?_, fun m hm => ?_, fun m hm => ?_, h.fr.step f hs1 (fun k hk hk' => ?_), h.gN, h.prop, h.hL⟩
  · rcases hb with ⟨e1, h1, h2, rfl⟩ | ⟨h1, rfl, rfl⟩
    · rw [List.length_set]
      rcases h.len with h3 | ⟨h3, _⟩
      · exact .inl h3
      · exact .inr ⟨h3, _, List.mem_of_getElem? (List.getElem?_set_self (List.getElem?_eq_some_iff.1 h1).1), h2⟩
    · rcases h.len with h3 | ⟨h3, e, he, heb⟩
      · exact .inr ⟨by simp [h3], _, List.mem_append_right _ (List.mem_singleton.2 rfl), rfl⟩
      · exact absurd heb (h1 e he)
  · rcases hm.up with h3 | h3
    · exact h.new m h3
    · exact .inr (by omega)
  · rcases hm with h3 | h3
    · have := h.lt m h3; omega
    · exact h3.2
  · rcases hm.up with h3 | h3
    · exact h.newG m h3
    · exact .inr (by omega)
  · rcases hm with h3 | h3
    · exact .of (h.sub m h3)
    · exact .inr h3
  · rcases h.newG k hk' with h3 | h3
    · exact .inr h3
    · omega
end

end Go.Proofs.YtnlncfjibbdimaaDoor
