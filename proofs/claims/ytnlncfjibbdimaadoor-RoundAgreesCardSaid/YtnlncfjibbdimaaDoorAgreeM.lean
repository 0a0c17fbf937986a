/-
  BallotAgrees in memory: ledgers that no changing block lies in, acceptors, the ballots that were counted. No walk stands here.
-/
import Derived.Test.YtnlncfjibbdimaaDoorAgree
import Derived.Test.YtnlncfjibbdimaaDoorActsL
namespace Go.Proofs.YtnlncfjibbdimaaDoor
open Go.RowKit
set_option linter.unusedSimpArgs false
set_option linter.unusedVariables false

/-! ### The plain side -/

def aof (s : Acc) : Acp Cmd := ⟨(s.pr, s.pn), (s.ar, s.an), s.led⟩
abbrev Vt := Voting Cmd
theorem aof_upd (s : Nat → Acc) (j : Nat) (t : Acc) : (fun i => aof (upd s j t i)) = upd (fun i => aof (s i)) j (aof t) := by
  funext i
  unfold upd
  split <;> rfl
/-- What refuses: a ballot that is none, or one below what was promised. -/
theorem refuse_zero {s : Acc} {r n : Int} (h : s.refuse r n = 0) : lg r n = true ∧ ab s.pr s.pn r n = false := by
  rcases refuse_cases s r n with ⟨h1, hr⟩ | ⟨h1, h2, hr⟩ | ⟨h1, h2, hr⟩
  · rw [hr] at h; cases h
  · rw [hr] at h; cases h
  · exact ⟨h1, h2⟩
theorem ab_blt {r1 n1 r2 n2 : Int} : ab r1 n1 r2 n2 = true ↔ blt (r2, n2) (r1, n1) := by
  unfold ab blt
  simp only [decide_eq_true_eq, Bool.or_eq_true, Bool.and_eq_true]
  constructor <;> (intro h; omega)

/-- Promises that a round was told: who has promised, the newest of theirs. -/
structure Told (n : Nat) (r nn : Int) (s : Nat → Acc) (seen : Nat → Bool) (m : Bl) (L : List Cmd) : Prop where
  own : ∀ i, seen i = true → i < n ∧ (s i).pr = r ∧ (s i).pn = nn ∧ lg r nn = true
  who : (m = (0, 0) ∧ L = []) ∨ ∃ i, i < n ∧ seen i = true ∧ ((s i).ar, (s i).an) = m ∧ (s i).led = L
  most : ∀ i, i < n → seen i = true → ¬ blt m ((s i).ar, (s i).an)

theorem prep_keeps (s : Acc) (r n : Int) : (s.prep r n).ar = s.ar ∧ (s.prep r n).an = s.an ∧ (s.prep r n).led = s.led := by
  unfold Acc.prep
  split <;> exact ⟨rfl, rfl, rfl⟩
theorem Ballots.prep {n half : Nat} {s : Nat → Acc} {v : Vt} (h : Ballots n half (fun i => aof (s i)) v) (j : Nat) (r nn : Int) : Ballots n half (fun i => aof (upd s j ((s j).prep r nn) i)) v := by
  rw [aof_upd]
  by_cases hr : (s j).refuse r nn = 0
  · have h1 := h.promise j (r, nn) (fun hb => by
      have := (refuse_zero hr).2
      rw [Bool.eq_false_iff] at this
      exact this (ab_blt.2 hb))
    have e : aof ((s j).prep r nn) = { aof (s j) with pr := (r, nn) } := by
      unfold Acc.prep
      rw [if_pos hr]
      rfl
    rw [e]
    exact h1
  · have e : (s j).prep r nn = s j := by unfold Acc.prep; rw [if_neg hr]
    rw [e]
    have e2 : upd (fun i => aof (s i)) j (aof (s j)) = fun i => aof (s i) := by
      funext i
      unfold upd
      split
      · rename_i h; rw [h]
      · rfl
    rw [e2]
    exact h
theorem Told.prep {n : Nat} {r nn : Int} {s : Nat → Acc} {seen : Nat → Bool} {m : Bl} {L : List Cmd} (h : Told n r nn s seen m L) (j : Nat) : Told n r nn (upd s j ((s j).prep r nn)) seen m L := by
  have hk := prep_keeps (s j) r nn
  have ha : ∀ i, ((upd s j ((s j).prep r nn)) i).ar = (s i).ar ∧ ((upd s j ((s j).prep r nn)) i).an = (s i).an ∧ ((upd s j ((s j).prep r nn)) i).led = (s i).led := fun i => by
    unfold upd
    split
    · rename_i h; rw [h]; exact hk
    · exact ⟨rfl, rfl, rfl⟩
  refine ⟨fun i hi => ?_, ?_, fun i hi hs => ?_⟩
  · obtain ⟨h1, h2, h3, h4⟩ := h.own i hi
    refine ⟨h1, ?_⟩
    unfold upd
    split
    · rename_i e
      subst e
      unfold Acc.prep
      split
      · exact ⟨rfl, rfl, h4⟩
      · exact ⟨h2, h3, h4⟩
    · exact ⟨h2, h3, h4⟩
  · rcases h.who with h1 | ⟨i, h1, h2, h3, h4⟩
    · exact .inl h1
    · exact .inr ⟨i, h1, h2, by rw [(ha i).1, (ha i).2.1]; exact h3, by rw [(ha i).2.2]; exact h4⟩
  · rw [(ha i).1, (ha i).2.1]; exact h.most i hi hs
/-- One more has promised: the newest is the newest of both. -/
theorem Told.more {n : Nat} {r nn : Int} {s : Nat → Acc} {seen : Nat → Bool} {m : Bl} {L : List Cmd} (h : Told n r nn s seen m L) {j : Nat} (hj : j < n) (hr : (s j).refuse r nn = 0) :
    Told n r nn (upd s j ((s j).prep r nn)) (upd seen j true) (if blt m ((s j).ar, (s j).an) then ((s j).ar, (s j).an) else m) (if blt m ((s j).ar, (s j).an) then (s j).led else L) := by
  have h' := h.prep j
  have hk := prep_keeps (s j) r nn
  have hl := (refuse_zero hr).1
  refine ⟨fun i hi => ?_, ?_, fun i hi hs => ?_⟩
  · by_cases e : i = j
    · subst e
      refine ⟨hj, ?_⟩
      rw [upd_same]
      unfold Acc.prep
      rw [if_pos hr]
      exact ⟨rfl, rfl, hl⟩
    · rw [upd_other _ _ e] at hi
      exact h'.own i hi
  · by_cases hb : blt m ((s j).ar, (s j).an)
    · rw [if_pos hb, if_pos hb]
      exact .inr ⟨j, hj, upd_same _ _ _, by rw [upd_same, hk.1, hk.2.1], by rw [upd_same, hk.2.2]⟩
    · rw [if_neg hb, if_neg hb]
      rcases h'.who with h1 | ⟨i, h1, h2, h3, h4⟩
      · exact .inl h1
      · refine .inr ⟨i, h1, ?_, h3, h4⟩
        unfold upd
        split
        · rfl
        · exact h2
  · by_cases e : i = j
    · subst e
      rw [upd_same, hk.1, hk.2.1]
      by_cases hb : blt m ((s i).ar, (s i).an)
      · rw [if_pos hb]; exact blt_irrefl _
      · rw [if_neg hb]; exact hb
    · rw [upd_other _ _ e] at hs
      have hm := h'.most i hi hs
      by_cases hb : blt m ((s j).ar, (s j).an)
      · rw [if_pos hb]
        exact fun hc => hm (blt_trans hb hc)
      · rw [if_neg hb]; exact hm
theorem Told.start (n : Nat) (r nn : Int) (s : Nat → Acc) : Told n r nn s (fun _ => false) (0, 0) [] :=
  ⟨fun i h => (by cases h), .inl ⟨rfl, rfl⟩, fun i _ h => (by cases h)⟩
/-- More than half have promised: the round proposes. -/
theorem Told.propose {n half : Nat} {r nn : Int} {s : Nat → Acc} {seen : Nat → Bool} {m : Bl} {L : List Cmd} {v : Vt} (h : Told n r nn s seen m L) (hb : Ballots n half (fun i => aof (s i)) v) (hnew : v.prop (r, nn) = none) (hc : half ≤ cnt n seen) (more : List Cmd) :
    Ballots n half (fun i => aof (s i)) ⟨fun c => if c = (r, nn) then some (L ++ more) else v.prop c, v.voted⟩ := by
  have hpos : 0 < cnt n seen := by have := hb.more; omega
  have hex : ∃ i, seen i = true := by
    refine Classical.byContradiction fun hne => ?_
    have : cnt n seen = cnt n (fun _ => false) := cnt_congr fun i _ => by
      cases hs : seen i with
      | false => rfl
      | true => exact absurd ⟨i, hs⟩ hne
    rw [this, cnt_zero] at hpos
    omega
  obtain ⟨i0, hi0⟩ := hex
  have hlg := lg_rng (h.own i0 hi0).2.2.2
  refine hb.propose (r, nn) hnew (.inl (by simp only; omega)) seen hc (fun i _ hs => ?_) m L more ?_ (fun i hi hs => h.most i hi hs)
  · obtain ⟨_, h2, h3, _⟩ := h.own i hs
    simp only [aof, h2, h3]
  · rcases h.who with h1 | ⟨i, h1, h2, h3, h4⟩
    · exact .inl h1
    · exact .inr ⟨i, h1, h2, h3, h4⟩

/-- What has been proposed and voted, with the vts of one ballot told. -/
def vts (v : Vt) (b : Bl) (seen : Nat → Bool) : Vt := ⟨v.prop, fun c => if c = b then seen else v.voted c⟩
theorem votes_start {v : Vt} {b : Bl} (h : ∀ i, v.voted b i = false) : vts v b (fun _ => false) = v := by
  unfold vts
  obtain ⟨p, q⟩ := v
  simp only [Voting.mk.injEq, true_and]
  funext c i
  split
  · rename_i e; subst e; exact (h i).symm
  · rfl
theorem Ballots.take {n half : Nat} {s : Nat → Acc} {v : Vt} {r nn : Int} {seen : Nat → Bool} (h : Ballots n half (fun i => aof (s i)) (vts v (r, nn) seen)) {j : Nat} (hj : j < n) {L : List Cmd} (hp : v.prop (r, nn) = some L) (hr : (s j).refuse r nn = 0) :
    Ballots n half (fun i => aof (upd s j ((s j).take r nn L) i)) (vts v (r, nn) (upd seen j true)) := by
  rw [aof_upd]
  have h1 := h.accept j hj (r, nn) L hp (fun hb => by
    have := (refuse_zero hr).2
    rw [Bool.eq_false_iff] at this
    exact this (ab_blt.2 hb))
  have e : aof ((s j).take r nn L) = ⟨(r, nn), (r, nn), L⟩ := by
    unfold Acc.take
    rw [if_pos hr]
    rfl
  rw [e]
  have e2 : vts v (r, nn) (upd seen j true) = ⟨(vts v (r, nn) seen).prop, fun c => if c = (r, nn) then upd ((vts v (r, nn) seen).voted c) j true else (vts v (r, nn) seen).voted c⟩ := by
    unfold vts
    simp only [Voting.mk.injEq, true_and]
    funext c
    by_cases hc : c = (r, nn)
    · simp only [if_pos hc]
    · simp only [if_neg hc]
  rw [e2]
  exact h1
theorem upd_self {α : Type} (s : Nat → α) (j : Nat) : upd s j (s j) = s := by
  funext i
  unfold upd
  split
  · rename_i h; rw [h]
  · rfl

/-- A ballot that was counted: its ledger, how many. -/
structure Ent where
  b : Bl
  L : List Cmd
  c : Nat
/-- One more for a ballot. -/
def Bump (es : List Ent) (b : Bl) (L : List Cmd) (es' : List Ent) (at_ : Nat) : Prop :=
  (∃ e, es[at_]? = some e ∧ e.b = b ∧ es' = es.set at_ ⟨e.b, e.L, e.c + 1⟩) ∨ ((∀ e ∈ es, e.b ≠ b) ∧ at_ = es.length ∧ es' = es ++ [⟨b, L, 1⟩])
/-- What the counted ballots are: proposed, and no more than voted. -/
def Fair (n : Nat) (v : Vt) (es : List Ent) : Prop := ∀ e ∈ es, v.prop e.b = some e.L ∧ e.c ≤ cnt n (v.voted e.b)

theorem Fair.bump {n : Nat} {v : Vt} {r nn : Int} {seen : Nat → Bool} {es es' : List Ent} {L : List Cmd} {at_ j : Nat} (h : Fair n (vts v (r, nn) seen) es) (hb : Bump es (r, nn) L es' at_) (hj : j < n) (hs : seen j = false) (hp : v.prop (r, nn) = some L) :
    Fair n (vts v (r, nn) (upd seen j true)) es' := by
  have hc := cnt_upd hj hs
  have old : ∀ e ∈ es, (vts v (r, nn) (upd seen j true)).prop e.b = some e.L ∧ e.c ≤ cnt n ((vts v (r, nn) (upd seen j true)).voted e.b) := fun e he => by
    obtain ⟨h1, h2⟩ := h e he
    refine ⟨h1, ?_⟩
    simp only [vts] at h2 ⊢
    by_cases hq : e.b = (r, nn)
    · rw [if_pos hq] at h2 ⊢; omega
    · rw [if_neg hq] at h2 ⊢; exact h2
  rcases hb with ⟨e0, h1, h2, rfl⟩ | ⟨_, _, rfl⟩
  · intro e he
    rcases List.mem_or_eq_of_mem_set he with he | rfl
    · exact old e he
    · obtain ⟨g1, g2⟩ := h e0 (List.mem_of_getElem? h1)
      refine ⟨g1, ?_⟩
      simp only [vts, h2, if_true] at g2 ⊢
      omega
  · intro e he
    rcases List.mem_append.1 he with he | he
    · exact old e he
    · rw [List.mem_singleton] at he
      subst he
      refine ⟨hp, ?_⟩
      simp only [vts, if_true]
      omega
theorem Fair.agree {n half : Nat} {s : Nat → Acc} {v : Vt} {es : List Ent} (h : Fair n v es) (hb : Ballots n half (fun i => aof (s i)) v) {e1 e2 : Ent} (h1 : e1 ∈ es) (h2 : e2 ∈ es) (k1 : half ≤ e1.c) (k2 : half ≤ e2.c) : e1.L <+: e2.L ∨ e2.L <+: e1.L :=
  hb.agree (h e1 h1).1 (h e2 h2).1 (Nat.le_trans k1 (h e1 h1).2) (Nat.le_trans k2 (h e2 h2).2)
theorem Fair.few {n : Nat} {v : Vt} {es : List Ent} (h : Fair n v es) : ∀ e ∈ es, e.c ≤ n := fun e he => Nat.le_trans (h e he).2 (cnt_le _ _)

/-! ### In memory -/

/-- A ledger none of whose blocks is in M. -/
def Lf (M : Nat → Prop) (w : World) (v : Value) (l : List Cmd) : Prop := ∃ lo hi, LedAt w lo hi v l ∧ hi ≤ w.heap.size ∧ ∀ m, M m → m < lo ∨ hi ≤ m
/-- An acceptor whose ledger's blocks are not in M. -/
def AccF (M : Nat → Prop) (w : World) (B g : Nat) (s : Acc) : Prop := ∃ lo hi, AccL w B lo hi g 156 s ∧ ∀ m, M m → m < lo ∨ hi ≤ m

section
variable {M M' : Nat → Prop} {w w' : World} {v : Value} {l : List Cmd} {B B' g : Nat} {S : Nat → Prop} {s : Acc}
theorem Lf.fr (h : Lf M w v l) (f : Fr B S w w') (hB : w.heap.size ≤ B) (hS : ∀ k, S k → M k) : Lf M w' v l := by
  obtain ⟨lo, hi, h1, h2, h3⟩ := h
  exact ⟨lo, hi, h1.fr f (by omega) (fun k g1 g2 hk => by have := h3 k (hS k hk); omega), Nat.le_trans h2 f.size, h3⟩
theorem Lf.grow (h : Lf M w v l) (hM : ∀ m, M' m → M m ∨ w.heap.size ≤ m) : Lf M' w v l := by
  obtain ⟨lo, hi, h1, h2, h3⟩ := h
  exact ⟨lo, hi, h1, h2, fun m hm => by
    rcases hM m hm with h | h
    · exact h3 m h
    · omega⟩
theorem AccF.fr (h : AccF M w B g s) (f : Fr B' S w w') (hB : w.heap.size ≤ B') (hS : ∀ k, S k → M k) (hg : ¬ S g) : AccF M w' B g s := by
  obtain ⟨lo, hi, h1, h2⟩ := h
  exact ⟨lo, hi, h1.fr f hB hg (fun k g1 g2 hk => by have := h2 k (hS k hk); omega), h2⟩
theorem AccF.grow (h : AccF M w B g s) (hM : ∀ m, M' m → M m ∨ w.heap.size ≤ m) : AccF M' w B g s := by
  obtain ⟨lo, hi, h1, h2⟩ := h
  have h3 := h1.2.2.1
  exact ⟨lo, hi, h1, fun m hm => by
    rcases hM m hm with h | h
    · exact h2 m h
    · omega⟩
end

/-- The acceptors: n of them, at the blocks g 0, g 1 .. -/
structure AccsF (M : Nat → Prop) (w : World) (B n : Nat) (g : Nat → Nat) (s : Nat → Acc) : Prop where
  acc : ∀ i, i < n → AccF M w B (g i) (s i)
  in_ : ∀ i, i < n → M (g i)
  inj : ∀ i j, i < n → j < n → g i = g j → i = j
  hB : B ≤ w.heap.size
section
variable {M M' : Nat → Prop} {w w' : World} {B B' n j : Nat} {g : Nat → Nat} {s : Nat → Acc} {S : Nat → Prop}
theorem AccsF.fr (h : AccsF M w B n g s) (f : Fr B' S w w') (hB' : w.heap.size ≤ B') (hS : ∀ k, S k → M k) (hg : ∀ i, i < n → ¬ S (g i)) : AccsF M w' B n g s :=
  ⟨fun i hi => (h.acc i hi).fr f hB' hS (hg i hi), h.in_, h.inj, Nat.le_trans h.hB f.size⟩
theorem AccsF.step (h : AccsF M w B n g s) (hj : j < n) (f : Fr w.heap.size (· = g j) w w') {t : Acc} (ht : AccF M w' B (g j) t) : AccsF M w' B n g (upd s j t) := by
  refine ⟨fun i hi => ?_, h.in_, h.inj, Nat.le_trans h.hB f.size⟩
  by_cases e : i = j
  · subst e; rw [upd_same]; exact ht
  · rw [upd_other _ _ e]
    exact (h.acc i hi).fr f (Nat.le_refl _) (fun k hk => by rw [hk]; exact h.in_ j hj) (fun he => e (h.inj i j hi hj he))
theorem AccsF.below (h : AccsF M w B n g s) (f : Below B' w w') (hB' : w.heap.size ≤ B') : AccsF M w' B n g s := h.fr (Fr.of_below f (fun _ => False)) hB' (fun _ h => h.elim) (fun _ _ h => h)
theorem AccsF.grow (h : AccsF M w B n g s) (hM : ∀ m, M' m → M m ∨ w.heap.size ≤ m) (hin : ∀ i, i < n → M' (g i)) : AccsF M' w B n g s := ⟨fun i hi => (h.acc i hi).grow hM, hin, h.inj, h.hB⟩
theorem AccsF.lt (h : AccsF M w B n g s) (hj : j < n) : g j < B := by
  obtain ⟨_, _, h1, _⟩ := h.acc j hj
  exact h1.1
end

def ptrs (g : Nat → Nat) (n : Nat) : List Value := (List.range n).map fun i => .pointer (some ⟨g i, 0, none⟩)
theorem ptrs_get {g : Nat → Nat} {n i : Nat} (h : i < n) : (ptrs g n)[i]? = some (.pointer (some ⟨g i, 0, none⟩)) := by simp [ptrs, h]
/-- A slice of pointers to acceptors. -/
def PtrsF (M : Nat → Prop) (w : World) (A : Option Addr) (n : Nat) (g : Nat → Nat) : Prop := ∃ lo hi, Rd w lo hi 1 A n (ptrs g n) ∧ hi ≤ w.heap.size ∧ ∀ m, M m → m < lo ∨ hi ≤ m
section
variable {M M' : Nat → Prop} {w w' : World} {A : Option Addr} {B' n j : Nat} {g : Nat → Nat} {S : Nat → Prop}
theorem PtrsF.fr (h : PtrsF M w A n g) (f : Fr B' S w w') (hB : w.heap.size ≤ B') (hS : ∀ k, S k → M k) : PtrsF M w' A n g := by
  obtain ⟨lo, hi, h1, h2, h3⟩ := h
  exact ⟨lo, hi, h1.fr f (by omega) (fun k g1 g2 hk => by have := h3 k (hS k hk); omega), Nat.le_trans h2 f.size, h3⟩
theorem PtrsF.grow (h : PtrsF M w A n g) (hM : ∀ m, M' m → M m ∨ w.heap.size ≤ m) : PtrsF M' w A n g := by
  obtain ⟨lo, hi, h1, h2, h3⟩ := h
  exact ⟨lo, hi, h1, h2, fun m hm => by
    rcases hM m hm with h | h
    · exact h3 m h
    · omega⟩
theorem PtrsF.at_ (h : PtrsF M w A n g) (hj : j < n) : ∃ b o, A = some ⟨b, o, none⟩ ∧ b < w.heap.size ∧ ¬ M b ∧ ∀ i, i < n → w.cell? ⟨b, o + i, none⟩ = some (.pointer (some ⟨g i, 0, none⟩)) := by
  obtain ⟨lo, hi, h1, h2, h3⟩ := h
  obtain ⟨⟨b, o, sp⟩, rfl, k1, k2, k3⟩ := h1.2 (by omega)
  have hsp : sp = none := by
    have := k3 0 _ (ptrs_get (g := g) (n := n) (i := 0) (by omega))
    simpa [Addr.add] using World.cell?_spot this
  subst hsp
  refine ⟨b, o, rfl, by simp only at k2; omega, fun hm => by have := h3 b hm; simp only at k1 k2; omega, fun i hi => ?_⟩
  have := k3 i _ (ptrs_get (g := g) (n := n) hi)
  rw [Addr.add_mid] at this
  exact this
end

def balc (b : Bl) : List Value := [.int .i64 b.1, .int .i64 b.2]
def balcs (es : List Ent) : List Value := es.flatMap fun e => balc e.b
def cntcs (es : List Ent) : List Value := es.map fun e => .int .i64 (e.c : Nat)
theorem balcs_get : ∀ {es : List Ent} {i : Nat} {e : Ent}, es[i]? = some e → (balcs es)[i * 2]? = some (.int .i64 e.b.1) ∧ (balcs es)[i * 2 + 1]? = some (.int .i64 e.b.2)
  | [], i, e, h => by simp at h
  | e0 :: es, 0, e, h => by
    simp at h
    subst h
    exact ⟨rfl, rfl⟩
  | e0 :: es, i + 1, e, h => by
    have h' : es[i]? = some e := by simpa using h
    have := balcs_get h'
    have e1 : balcs (e0 :: es) = .int .i64 e0.b.1 :: .int .i64 e0.b.2 :: balcs es := rfl
    rw [e1, show (i + 1) * 2 = i * 2 + 1 + 1 by omega, show i * 2 + 1 + 1 + 1 = (i * 2 + 1) + 1 + 1 by omega]
    simp only [List.getElem?_cons_succ]
    exact this
theorem balcs_length (es : List Ent) : (balcs es).length = es.length * 2 := by
  induction es with
  | nil => rfl
  | cons e es ih =>
    have e1 : balcs (e :: es) = .int .i64 e.b.1 :: .int .i64 e.b.2 :: balcs es := rfl
    rw [e1, List.length_cons, List.length_cons, ih, List.length_cons]
    omega
theorem cntcs_get {es : List Ent} {i : Nat} {e : Ent} (h : es[i]? = some e) : (cntcs es)[i]? = some (.int .i64 (e.c : Nat)) := by
  unfold cntcs
  rw [List.getElem?_map, h]
  rfl

/-- The ballots that were counted, with their ledgers and counts, at block ga: MG holds all its blocks. -/
def AgAt (M MG : Nat → Prop) (w : World) (ga : Nat) (es : List Ent) : Prop :=
  ∃ v1 v2 v3 vs, Blk w ga 42 #[v1, v2, v3] ∧ w.ownsRow 0 23 2 v1 es.length (balcs es) ∧ w.ownsRow 0 46 1 v2 es.length vs ∧ w.ownsRow 0 3 1 v3 es.length (cntcs es) ∧ MG ga ∧
    (∀ k, v1.ownBlock = some k → MG k) ∧ (∀ k, v2.ownBlock = some k → MG k) ∧ (∀ k, v3.ownBlock = some k → MG k) ∧ vs.length = es.length ∧ ∀ (i : Nat) (v : Value) (e : Ent), vs[i]? = some v → es[i]? = some e → Lf M w v e.L
theorem ownsRow_frS {w w' : World} {B base e size n : Nat} {v : Value} {xs : List Value} {S : Nat → Prop} (h : w.ownsRow base e size v n xs) (f : Fr B S w w') (hB : w.heap.size ≤ B) (hS : ∀ k, v.ownBlock = some k → ¬ S k) : w'.ownsRow base e size v n xs := by
  refine ⟨h.1, ?_⟩
  rcases h.2 with h2 | ⟨k, cap, cur, he, hb, hh, hr⟩
  · exact .inl h2
  · have hk : Blk w k e cur := hh
    exact .inr ⟨k, cap, cur, he, hb, hk.fr f (Nat.lt_of_lt_of_le hk.lt hB) (hS k (by rw [he]; simp [Value.ownBlock])), hr⟩
theorem AgAt.fr {M MG : Nat → Prop} {w w' : World} {B ga : Nat} {es : List Ent} {S : Nat → Prop} (h : AgAt M MG w ga es) (f : Fr B S w w') (hB : w.heap.size ≤ B) (hS : ∀ k, S k → M k) (hG : ∀ k, S k → ¬ MG k) : AgAt M MG w' ga es := by
  obtain ⟨v1, v2, v3, vs, h1, h2, h3, h4, h5, h6, h7, h8, h9, h10⟩ := h
  exact ⟨v1, v2, v3, vs, h1.fr f (Nat.lt_of_lt_of_le h1.lt hB) (fun hs => hG _ hs h5), ownsRow_frS h2 f hB (fun k hk hs => hG k hs (h6 k hk)), ownsRow_frS h3 f hB (fun k hk hs => hG k hs (h7 k hk)), ownsRow_frS h4 f hB (fun k hk hs => hG k hs (h8 k hk)),
    h5, h6, h7, h8, h9, fun i v e g1 g2 => (h10 i v e g1 g2).fr f hB hS⟩
theorem AgAt.grow {M M' MG MG' : Nat → Prop} {w : World} {ga : Nat} {es : List Ent} (h : AgAt M MG w ga es) (hM : ∀ m, M' m → M m ∨ w.heap.size ≤ m) (hG : ∀ k, MG k → MG' k) : AgAt M' MG' w ga es := by
  obtain ⟨v1, v2, v3, vs, h1, h2, h3, h4, h5, h6, h7, h8, h9, h10⟩ := h
  exact ⟨v1, v2, v3, vs, h1, h2, h3, h4, hG _ h5, fun k hk => hG k (h6 k hk), fun k hk => hG k (h7 k hk), fun k hk => hG k (h8 k hk), h9, fun i v e g1 g2 => (h10 i v e g1 g2).grow hM⟩

end Go.Proofs.YtnlncfjibbdimaaDoor
