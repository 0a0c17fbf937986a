/-
  Promises that are told late: what an acceptor's promise says stays true; a round that was told by more than half proposes. Plain Lean.
  Rounds and acceptors, and the messages between them: what holds whatever is lost, doubled or late. Plain Lean.
-/
import Derived.Test.YtnlncfjibbdimaaDoorAgree
import Derived.Test.YtnlncfjibbdimaaDoorAgreeM
import Derived.Test.YtnlncfjibbdimaaDoorN13
namespace Go.Proofs.YtnlncfjibbdimaaDoor
set_option linter.unusedVariables false

section
variable {α : Type}
/-- What a promise of acceptor j for ballot b told: it had accepted L with ballot m. -/
structure Vow (acc : Nat → Acp α) (v : Voting α) (j : Nat) (b m : Bl) (L : List α) : Prop where
  pr : ¬ blt (acc j).pr b
  le : ¬ blt b m
  votes : ∀ c, v.voted c j = true → blt c b → ¬ blt m c
  told : (m = (0, 0) ∧ L = []) ∨ v.prop m = some L

variable {n half : Nat} {acc : Nat → Acp α} {v : Voting α} {j : Nat} {b m : Bl} {L : List α}

theorem Vow.promise (h : Vow acc v j b m L) (j' : Nat) (b' : Bl) (hb : ¬ blt b' (acc j').pr) : Vow (upd acc j' { acc j' with pr := b' }) v j b m L := by
  refine ⟨?_, h.le, h.votes, h.told⟩
  by_cases e : j = j'
  · subst e; rw [upd_same]; exact ble_trans h.pr hb
  · rw [upd_other _ _ e]; exact h.pr
theorem Vow.propose (h : Vow acc v j b m L) (b' : Bl) (L' : List α) (hn : v.prop b' = none) : Vow acc ⟨fun c => if c = b' then some L' else v.prop c, v.voted⟩ j b m L := by
  refine ⟨h.pr, h.le, h.votes, ?_⟩
  rcases h.told with h1 | h1
  · exact .inl h1
  · refine .inr ?_
    have : m ≠ b' := fun e => by rw [e, hn] at h1; cases h1
    simp only [if_neg this]
    exact h1
theorem Vow.accept (h : Vow acc v j b m L) (j' : Nat) (b' : Bl) (L' : List α) (hb : ¬ blt b' (acc j').pr) :
    Vow (upd acc j' ⟨b', b', L'⟩) ⟨v.prop, fun c => if c = b' then upd (v.voted c) j' true else v.voted c⟩ j b m L := by
  refine ⟨?_, h.le, fun c hv hc => ?_, h.told⟩
  · by_cases e : j = j'
    · subst e; rw [upd_same]; exact ble_trans h.pr hb
    · rw [upd_other _ _ e]; exact h.pr
  · simp only at hv
    by_cases ec : c = b'
    · subst ec
      simp only [if_true] at hv
      by_cases e : j = j'
      · subst e
        exact absurd hc (ble_trans h.pr hb)
      · rw [upd_other _ _ e] at hv
        exact h.votes c hv hc
    · simp only [if_neg ec] at hv
      exact h.votes c hv hc
/-- An acceptor that promises makes a vow. -/
theorem Ballots.vow (h : Ballots n half acc v) (hj : j < n) (hb : ¬ blt b (acc j).pr) : Vow (upd acc j { acc j with pr := b }) v j b (acc j).ar (acc j).led := by
  refine ⟨by rw [upd_same]; exact blt_irrefl _, ble_trans (h.rises j hj) hb, fun c hv hc => (h.votes c j hv).2.2, h.holds j hj⟩

/-- A round that more than half have vowed to proposes: its ledger goes on with the newest of theirs. -/
theorem Ballots.proposeV (h : Ballots n half acc v) (b : Bl) (hnew : v.prop b = none) (h0 : blt (0, 0) b) (Q : Nat → Bool) (hQ : half ≤ cnt n Q)
    (ms : Nat → Bl) (Ls : Nat → List α) (hvow : ∀ i, i < n → Q i = true → Vow acc v i b (ms i) (Ls i))
    (m : Bl) (Lm L : List α) (hL : Lm <+: L) (hm : (m = (0, 0) ∧ Lm = []) ∨ ∃ i, i < n ∧ Q i = true ∧ ms i = m ∧ Ls i = Lm) (hmax : ∀ i, i < n → Q i = true → ¬ blt m (ms i)) :
    Ballots n half acc ⟨fun c => if c = b then some L else v.prop c, v.voted⟩ := by
  have hmp : (m = (0, 0) ∧ Lm = []) ∨ (v.prop m = some Lm ∧ blt m b) := by
    rcases hm with hm | ⟨i, hi, hq, rfl, rfl⟩
    · exact .inl hm
    · rcases (hvow i hi hq).told with h1 | h1
      · exact .inl h1
      · refine .inr ⟨h1, ?_⟩
        refine Classical.byContradiction fun hc => ?_
        have := ble_antisymm hc (hvow i hi hq).le
        rw [this, hnew] at h1
        cases h1
  have hpast : ∀ c, blt c b → (∀ i, i < n → Q i = true → v.voted c i = false) → half ≤ past n acc v c := fun c hc hv =>
    Nat.le_trans hQ (cnt_mono fun i hi hq => by
      simp only [Bool.and_eq_true, decide_eq_true_eq, Bool.not_eq_true']
      exact ⟨hv i hi hq, blt_le hc (hvow i hi hq).pr⟩)
  refine ⟨h.more, h.rises, fun i hi => ?_, fun c M hc => ?_, fun c i hv => ?_, fun c hc => ?_, fun b' c L' M hlt h1 h2 => ?_⟩
  · rcases h.holds i hi with h1 | h1
    · exact .inl h1
    · right
      have : (acc i).ar ≠ b := fun e => by rw [e, hnew] at h1; cases h1
      simp only [if_neg this]
      exact h1
  · by_cases e : c = b
    · subst e; exact h0
    · simp only [if_neg e] at hc; exact h.above c M hc
  · obtain ⟨h1, h2, h3⟩ := h.votes c i hv
    refine ⟨h1, ?_, h3⟩
    by_cases e : c = b
    · simp [e]
    · simpa only [if_neg e] using h2
  · by_cases e : c = b
    · subst e
      refine Nat.le_trans hQ (cnt_mono fun i hi hq => ?_)
      simp only [decide_eq_true_eq]
      exact (hvow i hi hq).pr
    · simp only [if_neg e] at hc; exact h.asked c hc
  · show L' <+: M ∨ half ≤ past n acc v b'
    by_cases e : c = b
    · subst e
      have hb' : b' ≠ c := fun e => by subst e; exact blt_irrefl _ hlt
      simp only [if_neg hb'] at h1
      simp only [if_true, Option.some.injEq] at h2
      subst h2
      by_cases hv : ∃ i, i < n ∧ Q i = true ∧ v.voted b' i = true
      · obtain ⟨i, hi, hq, hv⟩ := hv
        have h3 := (hvow i hi hq).votes b' hv hlt
        have hbm : ¬ blt m b' := ble_trans h3 (hmax i hi hq)
        have hm0 := h.above b' L' h1
        rcases hmp with ⟨rfl, _⟩ | ⟨hmp, _⟩
        · exact absurd hm0 hbm
        · by_cases hbm' : blt b' m
          · rcases h.safe b' m L' Lm hbm' h1 hmp with h4 | h4
            · exact .inl (h4.trans hL)
            · exact .inr h4
          · have := ble_antisymm hbm hbm'
            subst this
            rw [hmp] at h1
            injection h1 with h1
            subst h1
            exact .inl hL
      · refine .inr (hpast b' hlt fun i hi hq => ?_)
        cases hvi : v.voted b' i with
        | false => rfl
        | true => exact absurd ⟨i, hi, hq, hvi⟩ hv
    · simp only [if_neg e] at h2
      by_cases e' : b' = b
      · subst e'
        refine .inr (Nat.le_trans (h.asked c (by rw [h2]; simp)) (cnt_mono fun i hi hq => ?_))
        simp only [decide_eq_true_eq] at hq
        simp only [Bool.and_eq_true, decide_eq_true_eq, Bool.not_eq_true']
        refine ⟨?_, blt_le hlt hq⟩
        cases hvi : v.voted b' i with
        | false => rfl
        | true => exact absurd hnew (h.votes b' i hvi).2.1
      · simp only [if_neg e'] at h1
        exact h.safe b' c L' M hlt h1 h2
end
end Go.Proofs.YtnlncfjibbdimaaDoor

namespace Go.Proofs.YtnlncfjibbdimaaDoor
set_option linter.unusedVariables false
set_option linter.unusedSimpArgs false

abbrev aofs (s : Nat → Acc) : Nat → Acp Cmd := fun i => aof (s i)
/-- What stays. -/
structure Ext (s : Nat → Acc) (v : Vt) (s' : Nat → Acc) (v' : Vt) : Prop where
  vow : ∀ j b m L, Vow (aofs s) v j b m L → Vow (aofs s') v' j b m L
  prop : ∀ c L, v.prop c = some L → v'.prop c = some L
  voted : ∀ c j, v.voted c j = true → v'.voted c j = true
theorem Ext.refl (s : Nat → Acc) (v : Vt) : Ext s v s v := ⟨fun _ _ _ _ h => h, fun _ _ h => h, fun _ _ h => h⟩

/-- Vows that a round was told, and the newest of theirs. -/
structure Heard (n : Nat) (s : Nat → Acc) (v : Vt) (b : Bl) (f : Nat → Bool) (m : Bl) (L : List Cmd) (ms : Nat → Bl) (Ls : Nat → List Cmd) : Prop where
  vow : ∀ j, j < n → f j = true → Vow (aofs s) v j b (ms j) (Ls j)
  who : (m = (0, 0) ∧ L = []) ∨ ∃ j, j < n ∧ f j = true ∧ ms j = m ∧ Ls j = L
  most : ∀ j, j < n → f j = true → ¬ blt m (ms j)

/-- What a round of node i keeps to. -/
structure RInv (n : Nat) (s : Nat → Acc) (v : Vt) (i : Nat) (r : Rnd) (f : Nat → Bool) : Prop where
  idle : r.stage = 0 → r.br = 0 ∧ r.bn = 0
  own : r.stage ≠ 0 → r.bn = i ∧ lg r.br r.bn = true
  ask : r.stage = 1 → v.prop (r.br, r.bn) = none ∧ ∃ ms Ls, Heard n s v (r.br, r.bn) f (r.nr, r.nn) r.led ms Ls
  tel : r.stage = 2 ∨ r.stage = 3 → v.prop (r.br, r.bn) = some r.led ∧ (∀ j, j < n → f j = true → v.voted (r.br, r.bn) j = true) ∧ (r.reads = false → 0 ≤ idxN r.led r.cmd.idn r.cmd.idb r.cmd.ids)
  don : r.stage = 3 → n / 2 + 1 ≤ cnt n (v.voted (r.br, r.bn))

/-- A message. -/
structure Let where
  who : Nat
  to_ : Nat
  tell : Bool
  answer : Bool
  b : Bl
  ac : Bl
  led : List Cmd
def LOk (n : Nat) (s : Nat → Acc) (v : Vt) (l : Let) : Prop :=
  l.who < n ∧ l.to_ < n ∧ (l.answer = true → l.tell = true → v.voted l.b l.to_ = true) ∧ (l.answer = true → l.tell = false → Vow (aofs s) v l.to_ l.b l.ac l.led) ∧ (l.answer = false → l.tell = true → v.prop l.b = some l.led)

structure Sys13 (n : Nat) (s : Nat → Acc) (R : Nat → Rnd) (F : Nat → Nat → Bool) (v : Vt) (ls : List Let) : Prop where
  bal : Ballots n (n / 2 + 1) (aofs s) v
  node : ∀ i, i < n → (s i).node = i
  good : ∀ i, i < n → (s i).Good
  fresh : ∀ b, v.prop b ≠ none → ∃ i : Nat, i < n ∧ b.2 = i ∧ b.1 ≤ (R i).br
  rounds : ∀ i, i < n → RInv n s v i (R i) (F i)
  letters : ∀ l ∈ ls, LOk n s v l
/-- A ledger that a round was done with. -/
def DoneL (n : Nat) (v : Vt) (d : List Cmd) : Prop := ∃ b, v.prop b = some d ∧ n / 2 + 1 ≤ cnt n (v.voted b)

section
variable {n : Nat} {s s' : Nat → Acc} {R : Nat → Rnd} {F : Nat → Nat → Bool} {v v' : Vt} {ls : List Let} {i j : Nat} {r : Rnd} {f : Nat → Bool} {b m : Bl} {L : List Cmd} {l : Let} {d : List Cmd}

theorem Heard.ext {ms : Nat → Bl} {Ls : Nat → List Cmd} (h : Heard n s v b f m L ms Ls) (e : Ext s v s' v') : Heard n s' v' b f m L ms Ls :=
  ⟨fun j hj hf => e.vow _ _ _ _ (h.vow j hj hf), h.who, h.most⟩
theorem RInv.ext (h : RInv n s v i r f) (e : Ext s v s' v') (hn : r.stage = 1 → v'.prop (r.br, r.bn) = none) : RInv n s' v' i r f := by
  refine ⟨h.idle, h.own, fun h1 => ?_, fun h2 => ?_, fun h3 => Nat.le_trans (h.don h3) (cnt_mono fun j _ hj => e.voted _ _ hj)⟩
  · obtain ⟨_, ms, Ls, h⟩ := h.ask h1
    exact ⟨hn h1, ms, Ls, h.ext e⟩
  · obtain ⟨k1, k2, k3⟩ := h.tel h2
    exact ⟨e.prop _ _ k1, fun j hj hf => e.voted _ _ (k2 j hj hf), k3⟩
theorem LOk.ext (h : LOk n s v l) (e : Ext s v s' v') : LOk n s' v' l :=
  ⟨h.1, h.2.1, fun h1 h2 => e.voted _ _ (h.2.2.1 h1 h2), fun h1 h2 => e.vow _ _ _ _ (h.2.2.2.1 h1 h2), fun h1 h2 => e.prop _ _ (h.2.2.2.2 h1 h2)⟩
theorem DoneL.ext (h : DoneL n v d) (e : Ext s v s' v') : DoneL n v' d := by
  obtain ⟨b, h1, h2⟩ := h
  exact ⟨b, e.prop _ _ h1, Nat.le_trans h2 (cnt_mono fun j _ hj => e.voted _ _ hj)⟩
theorem DoneL.agree {d' : List Cmd} (h : DoneL n v d) (h' : DoneL n v d') (k : Sys13 n s R F v ls) : d <+: d' ∨ d' <+: d := by
  obtain ⟨b, h1, h2⟩ := h
  obtain ⟨b', h1', h2'⟩ := h'
  exact k.bal.agree h1 h1' h2 h2'

theorem Sys13.start (n : Nat) (C : Nat → Rnd) (h0 : ∀ i, i < n → (C i).stage = 0 ∧ (C i).br = 0 ∧ (C i).bn = 0) : Sys13 n (fun i => Acc.new i) C (fun _ _ => false) ⟨fun _ => none, fun _ _ => false⟩ [] := by
  refine ⟨Ballots.start _ (by omega) (fun i _ => rfl), fun i _ => rfl, fun i _ => Acc.Good.new_ _, fun b hb => absurd rfl hb, fun i hi => ?_, fun l hl => by cases hl⟩
  obtain ⟨h1, h2, h3⟩ := h0 i hi
  exact ⟨fun _ => ⟨h2, h3⟩, fun h => absurd h1 h, fun h => by omega, fun h => by omega, fun h => by omega⟩
theorem Sys13.sub {ls' : List Let} (h : Sys13 n s R F v ls) (hs : ∀ l ∈ ls', l ∈ ls) : Sys13 n s R F v ls' :=
  ⟨h.bal, h.node, h.good, h.fresh, h.rounds, fun l hl => h.letters l (hs l hl)⟩
theorem Sys13.more {ls' : List Let} (h : Sys13 n s R F v ls) (hs : ∀ l ∈ ls', LOk n s v l) : Sys13 n s R F v (ls ++ ls') :=
  ⟨h.bal, h.node, h.good, h.fresh, h.rounds, fun l hl => (List.mem_append.1 hl).elim (h.letters l) (hs l)⟩

/-- What only changes an acceptor's claiming. -/
theorem aofs_clm (s : Nat → Acc) (i : Nat) (x : Int) : aofs (upd s i ((s i).clm x)) = aofs s := by
  funext k
  unfold aofs upd
  split
  · rename_i e
    subst e
    unfold Acc.clm aof
    split <;> rfl
  · rfl
theorem clm_node (s : Acc) (x : Int) : (s.clm x).node = s.node := by unfold Acc.clm; split <;> rfl
theorem Ext.of_eq (h : aofs s' = aofs s) : Ext s v s' v := ⟨fun j b m L hv => by rw [h]; exact hv, fun _ _ h => h, fun _ _ h => h⟩
theorem Sys13.claim (h : Sys13 n s R F v ls) (i : Nat) (x : Int) : Sys13 n (upd s i ((s i).clm x)) R F v ls := by
  have e : Ext s v (upd s i ((s i).clm x)) v := Ext.of_eq (aofs_clm s i x)
  refine ⟨by rw [aofs_clm]; exact h.bal, fun k hk => ?_, fun k hk => ?_, h.fresh, fun k hk => (h.rounds k hk).ext e (fun h1 => ((h.rounds k hk).ask h1).1), fun l hl => (h.letters l hl).ext e⟩
  · unfold upd
    split
    · rename_i e; subst e; rw [clm_node]; exact h.node k hk
    · exact h.node k hk
  · unfold upd
    split
    · rename_i e; subst e; exact (h.good k hk).clm x
    · exact h.good k hk

/-- A round begins. -/
theorem Sys13.begins (h : Sys13 n s R F v ls) (hi : i < n) (br : Int) (hl : lg br i = true) (ha : ab br i (R i).br (R i).bn = true) (r' : Rnd) (h1 : r'.br = br) (h2 : r'.bn = i) (h3 : r'.stage = 1) (h4 : r'.nr = 0) (h5 : r'.nn = 0) (h6 : r'.led = []) :
    Sys13 n s (upd R i r') (upd F i (fun _ => false)) v ls := by
  have hlg := lg_rng hl
  have hab := ab_blt.1 ha
  have hge : (R i).br ≤ br := by unfold blt at hab; simp only at hab; omega
  refine ⟨h.bal, h.node, h.good, fun b hb => ?_, fun k hk => ?_, h.letters⟩
  · obtain ⟨k, k1, k2, k3⟩ := h.fresh b hb
    refine ⟨k, k1, k2, ?_⟩
    unfold upd
    split
    · rename_i e; subst e; rw [h1]; omega
    · exact k3
  · by_cases e : k = i
    · subst e
      rw [upd_same, upd_same]
      refine ⟨fun h => by omega, fun _ => ⟨h2, by rw [h1, h2]; exact hl⟩, fun _ => ⟨?_, fun _ => (0, 0), fun _ => [], ⟨fun j _ hf => (by cases hf), .inl ⟨by rw [h4, h5], h6⟩, fun j _ hf => (by cases hf)⟩⟩, fun h => by omega, fun h => by omega⟩
      rw [h1, h2]
      refine Classical.byContradiction fun hc => ?_
      obtain ⟨k', k1, k2, k3⟩ := h.fresh _ hc
      simp only at k2 k3
      obtain rfl : k = k' := by omega
      have hR := h.rounds k hk
      unfold blt at hab
      simp only at hab
      rcases hab with hab | ⟨hab, hab'⟩
      · omega
      · by_cases hs : (R k).stage = 0
        · have := hR.idle hs; omega
        · have := hR.own hs; omega
    · rw [upd_other _ _ e, upd_other _ _ e]
      exact h.rounds k hk

theorem aofs_upd (s : Nat → Acc) (j : Nat) (t : Acc) : aofs (upd s j t) = upd (aofs s) j (aof t) := aof_upd s j t
theorem prep_zero {a : Acc} {r nn : Int} (h : a.refuse r nn = 0) : aof (a.prep r nn) = { aof a with pr := (r, nn) } := by
  unfold Acc.prep
  rw [if_pos h]
  rfl
theorem take_zero {a : Acc} {r nn : Int} {L : List Cmd} (h : a.refuse r nn = 0) : aof (a.take r nn L) = ⟨(r, nn), (r, nn), L⟩ := by
  unfold Acc.take
  rw [if_pos h]
  rfl
theorem not_below {a : Acc} {r nn : Int} (h : a.refuse r nn = 0) : ¬ blt (r, nn) (aof a).pr := fun hb => by
  have := (refuse_zero h).2
  rw [Bool.eq_false_iff] at this
  exact this (ab_blt.2 hb)
theorem prep_node (a : Acc) (r nn : Int) : (a.prep r nn).node = a.node := by unfold Acc.prep; split <;> rfl
theorem take_node (a : Acc) (r nn : Int) (L : List Cmd) : (a.take r nn L).node = a.node := by unfold Acc.take; split <;> rfl
theorem prep_refused {a : Acc} {r nn : Int} (h : a.refuse r nn ≠ 0) : a.prep r nn = a := by unfold Acc.prep; rw [if_neg h]
theorem take_refused {a : Acc} {r nn : Int} {L : List Cmd} (h : a.refuse r nn ≠ 0) : a.take r nn L = a := by unfold Acc.take; rw [if_neg h]

/-- An acceptor prepares. -/
theorem Sys13.prepare (h : Sys13 n s R F v ls) (hj : j < n) (r nn : Int) :
    Sys13 n (upd s j ((s j).prep r nn)) R F v ls ∧ Ext s v (upd s j ((s j).prep r nn)) v ∧ ((s j).refuse r nn = 0 → Vow (aofs (upd s j ((s j).prep r nn))) v j (r, nn) ((s j).ar, (s j).an) (s j).led) := by
  by_cases hr : (s j).refuse r nn = 0
  · have e1 : aofs (upd s j ((s j).prep r nn)) = upd (aofs s) j { aofs s j with pr := (r, nn) } := by rw [aofs_upd, prep_zero hr]
    have hb : ¬ blt (r, nn) (aofs s j).pr := not_below hr
    have e : Ext s v (upd s j ((s j).prep r nn)) v := ⟨fun k b m L hv => by rw [e1]; exact hv.promise j (r, nn) hb, fun _ _ h => h, fun _ _ h => h⟩
    refine ⟨⟨by rw [e1]; exact h.bal.promise j (r, nn) hb, fun k hk => ?_, fun k hk => ?_, h.fresh, fun k hk => (h.rounds k hk).ext e (fun h1 => ((h.rounds k hk).ask h1).1), fun l hl => (h.letters l hl).ext e⟩, e, fun _ => ?_⟩
    · unfold upd
      split
      · rename_i e; subst e; rw [prep_node]; exact h.node k hk
      · exact h.node k hk
    · unfold upd
      split
      · rename_i e; subst e; exact (h.good k hk).prep r nn
      · exact h.good k hk
    · rw [e1]
      exact h.bal.vow hj hb
  · rw [prep_refused hr, upd_self]
    exact ⟨h, Ext.refl _ _, fun h => absurd h hr⟩

/-- An acceptor accepts what was proposed. -/
theorem Sys13.accept (h : Sys13 n s R F v ls) (hj : j < n) (r nn : Int) (hp : v.prop (r, nn) = some L) :
    ∃ v', Sys13 n (upd s j ((s j).take r nn L)) R F v' ls ∧ Ext s v (upd s j ((s j).take r nn L)) v' ∧ ((s j).refuse r nn = 0 → v'.voted (r, nn) j = true) := by
  by_cases hr : (s j).refuse r nn = 0
  · have e1 : aofs (upd s j ((s j).take r nn L)) = upd (aofs s) j ⟨(r, nn), (r, nn), L⟩ := by rw [aofs_upd, take_zero hr]
    have hb : ¬ blt (r, nn) (aofs s j).pr := not_below hr
    refine ⟨⟨v.prop, fun c => if c = (r, nn) then upd (v.voted c) j true else v.voted c⟩, ?_⟩
    have e : Ext s v (upd s j ((s j).take r nn L)) ⟨v.prop, fun c => if c = (r, nn) then upd (v.voted c) j true else v.voted c⟩ :=
      ⟨fun k b m L' hv => by rw [e1]; exact hv.accept j (r, nn) L hb, fun _ _ h => h, fun c k hv => by
        simp only
        split
        · unfold upd
          split
          · rfl
          · exact hv
        · exact hv⟩
    refine ⟨⟨by rw [e1]; exact h.bal.accept j hj (r, nn) L hp hb, fun k hk => ?_, fun k hk => ?_, h.fresh, fun k hk => (h.rounds k hk).ext e (fun h1 => ((h.rounds k hk).ask h1).1), fun l hl => (h.letters l hl).ext e⟩, e, fun _ => ?_⟩
    · unfold upd
      split
      · rename_i e; subst e; rw [take_node]; exact h.node k hk
      · exact h.node k hk
    · unfold upd
      split
      · rename_i e; subst e; exact (h.good k hk).take r nn L
      · exact h.good k hk
    · simp [upd]
  · rw [take_refused hr, upd_self]
    exact ⟨v, h, Ext.refl _ _, fun h => absurd h hr⟩

/-- An answer to a telling counts. -/
theorem Sys13.accepted (h : Sys13 n s R F v ls) (hi : i < n) (h2 : (R i).stage = 2) (hj : j < n) (hv : v.voted ((R i).br, (R i).bn) j = true) :
    Sys13 n s (upd R i { R i with stage := if half n ≤ (cnt n (upd (F i) j true) : Nat) then 3 else 2 }) (upd F i (upd (F i) j true)) v ls := by
  have hR := h.rounds i hi
  obtain ⟨k1, k2, k3⟩ := hR.tel (.inl h2)
  have hf : ∀ q, q < n → upd (F i) j true q = true → v.voted ((R i).br, (R i).bn) q = true := fun q hq hfq => by
    by_cases e : q = j
    · subst e; exact hv
    · rw [upd_other _ _ e] at hfq; exact k2 q hq hfq
  refine ⟨h.bal, h.node, h.good, fun b hb => ?_, fun k hk => ?_, h.letters⟩
  · obtain ⟨k, q1, q2, q3⟩ := h.fresh b hb
    refine ⟨k, q1, q2, ?_⟩
    unfold upd
    split
    · rename_i e; subst e; exact q3
    · exact q3
  · by_cases e : k = i
    · subst e
      rw [upd_same, upd_same]
      have hst : (if half n ≤ (cnt n (upd (F k) j true) : Nat) then (3 : Int) else 2) = 2 ∨ (if half n ≤ (cnt n (upd (F k) j true) : Nat) then (3 : Int) else 2) = 3 := by split <;> simp
      refine ⟨fun h => by simp only at h; omega, fun _ => hR.own (by omega), fun h => by simp only at h; omega, fun _ => ⟨k1, hf, k3⟩, fun h3 => ?_⟩
      simp only at h3
      by_cases hm : half n ≤ (cnt n (upd (F k) j true) : Nat)
      · have : cnt n (upd (F k) j true) ≤ cnt n (v.voted ((R k).br, (R k).bn)) := cnt_mono hf
        have : half n = ((n / 2 + 1 : Nat) : Int) := by unfold half; rw [if_neg (by omega)]; omega
        simp only
        omega
      · rw [if_neg hm] at h3; omega
    · rw [upd_other _ _ e, upd_other _ _ e]
      exact h.rounds k hk

theorem half_nat (hn : 0 < n) : half n = ((n / 2 + 1 : Nat) : Int) := by unfold half; rw [if_neg (by omega)]; omega
theorem putL_some {c : Cmd} {L' : List Cmd} (h : putL L c = some L') : L <+: L' ∧ 0 ≤ idxN L' c.idn c.idb c.ids := by
  unfold putL at h
  split at h
  · rename_i hi
    injection h with h
    subst h
    exact ⟨List.prefix_rfl, hi⟩
  · split at h
    · cases h
    · injection h with h
      subst h
      refine ⟨List.prefix_append _ _, ?_⟩
      have : ∃ i, (L ++ [c]).findIdx? (fun x => idB x c.idn c.idb c.ids) = some i := by
        rw [← Option.isSome_iff_exists, List.findIdx?_isSome, List.any_eq_true]
        exact ⟨c, by simp, by simp [idB, eq3]⟩
      obtain ⟨i, hi⟩ := this
      unfold idxN
      rw [hi]
      simp

/-- A promise counts. -/
theorem Sys13.promise (h : Sys13 n s R F v ls) (hi : i < n) (h1 : (R i).stage = 1) (hj : j < n) (hfj : F i j = false) (hv : Vow (aofs s) v j ((R i).br, (R i).bn) b L) :
    ∃ v', Sys13 n s (upd R i ((R i).promised n (F i) j b.1 b.2 L)) (upd F i (promF n (F i) j)) v' ls ∧ Ext s v s v' := by
  have hR := h.rounds i hi
  obtain ⟨k1, ms, Ls, hd⟩ := hR.ask h1
  have hown := hR.own (by omega)
  have hlg := lg_rng hown.2
  -- the newest of all
  obtain ⟨r1, hr1⟩ : ∃ r1, r1 = (R i).newer b.1 b.2 L := ⟨_, rfl⟩
  have e1 : r1.br = (R i).br ∧ r1.bn = (R i).bn ∧ r1.stage = 1 ∧ r1.cmd = (R i).cmd ∧ r1.reads = (R i).reads := by
    rw [hr1]; unfold Rnd.newer; split <;> exact ⟨rfl, rfl, h1, rfl, rfl⟩
  have hd1 : Heard n s v ((R i).br, (R i).bn) (upd (F i) j true) (r1.nr, r1.nn) r1.led (upd ms j b) (upd Ls j L) := by
    have hnn : (r1.nr, r1.nn) = (if blt ((R i).nr, (R i).nn) b then b else ((R i).nr, (R i).nn)) ∧ r1.led = (if blt ((R i).nr, (R i).nn) b then L else (R i).led) := by
      rw [hr1]
      unfold Rnd.newer
      by_cases hab : ab b.1 b.2 (R i).nr (R i).nn = true
      · rw [if_pos hab, if_pos (ab_blt.1 hab), if_pos (ab_blt.1 hab)]; exact ⟨rfl, rfl⟩
      · rw [if_neg hab, if_neg (fun hc => hab (ab_blt.2 hc)), if_neg (fun hc => hab (ab_blt.2 hc))]; exact ⟨rfl, rfl⟩
    rw [hnn.1, hnn.2]
    refine ⟨fun q hq hfq => ?_, ?_, fun q hq hfq => ?_⟩
    · by_cases e : q = j
      · subst e; rw [upd_same, upd_same]; exact hv
      · rw [upd_other _ _ e] at hfq ⊢; rw [upd_other _ _ e]; exact hd.vow q hq hfq
    · by_cases hb : blt ((R i).nr, (R i).nn) b
      · rw [if_pos hb, if_pos hb]
        exact .inr ⟨j, hj, upd_same _ _ _, upd_same _ _ _, upd_same _ _ _⟩
      · rw [if_neg hb, if_neg hb]
        rcases hd.who with hw | ⟨q, q1, q2, q3, q4⟩
        · exact .inl hw
        · have e : q ≠ j := fun e => by rw [e, hfj] at q2; cases q2
          exact .inr ⟨q, q1, by rw [upd_other _ _ e]; exact q2, by rw [upd_other _ _ e]; exact q3, by rw [upd_other _ _ e]; exact q4⟩
    · by_cases e : q = j
      · subst e
        rw [upd_same]
        by_cases hb : blt ((R i).nr, (R i).nn) b
        · rw [if_pos hb]; exact blt_irrefl _
        · rw [if_neg hb]; exact hb
      · rw [upd_other _ _ e] at hfq ⊢
        have hm := hd.most q hq hfq
        by_cases hb : blt ((R i).nr, (R i).nn) b
        · rw [if_pos hb]; exact fun hc => hm (blt_trans hb hc)
        · rw [if_neg hb]; exact hm
  have hfr : ∀ (r' : Rnd), r'.br = (R i).br → ∀ b : Bl, (∃ i : Nat, i < n ∧ b.2 = i ∧ b.1 ≤ (R i).br) → ∃ k : Nat, k < n ∧ b.2 = k ∧ b.1 ≤ (upd R i r' k).br := fun r' hbr b ⟨k, q1, q2, q3⟩ => by
    refine ⟨k, q1, q2, ?_⟩
    unfold upd
    split
    · rename_i e; subst e; rw [hbr]; exact q3
    · exact q3
  unfold Rnd.promised promF
  rw [← hr1]
  by_cases hm : half n ≤ (cnt n (upd (F i) j true) : Nat)
  · rw [if_pos hm, if_pos hm]
    have hmn : n / 2 + 1 ≤ cnt n (upd (F i) j true) := by rw [half_nat (by omega)] at hm; omega
    have go : ∀ L', r1.led <+: L' → Ballots n (n / 2 + 1) (aofs s) ⟨fun c => if c = ((R i).br, (R i).bn) then some L' else v.prop c, v.voted⟩ := fun L' hL' =>
      h.bal.proposeV _ k1 (.inl (by show (0 : Int) < (R i).br; omega)) (upd (F i) j true) hmn _ _ hd1.vow _ _ _ hL' hd1.who hd1.most
    have ext : ∀ L', Ext s v s ⟨fun c => if c = ((R i).br, (R i).bn) then some L' else v.prop c, v.voted⟩ := fun L' =>
      ⟨fun q b m L hv => hv.propose _ L' k1, fun c M hc => by
        have : c ≠ ((R i).br, (R i).bn) := fun e => by rw [e, k1] at hc; cases hc
        simp only [if_neg this]
        exact hc, fun _ _ h => h⟩
    have done : ∀ L' (r' : Rnd), r1.led <+: L' → r'.br = (R i).br → r'.bn = (R i).bn → r'.stage = 2 → r'.led = L' → (r'.reads = false → 0 ≤ idxN r'.led r'.cmd.idn r'.cmd.idb r'.cmd.ids) →
        ∃ v', Sys13 n s (upd R i r') (upd F i (fun _ => false)) v' ls ∧ Ext s v s v' := fun L' r' hL' hbr hbn hst hled hidx => by
      refine ⟨_, ⟨go L' hL', h.node, h.good, fun c hc => hfr r' hbr c ?_, fun k hk => ?_, fun l hl => (h.letters l hl).ext (ext L')⟩, ext L'⟩
      · by_cases e : c = ((R i).br, (R i).bn)
        · rw [e]; exact ⟨i, hi, hown.1, Int.le_refl _⟩
        · simp only [if_neg e] at hc; exact h.fresh c hc
      · by_cases e : k = i
        · subst e
          rw [upd_same, upd_same]
          refine ⟨fun h => by omega, fun _ => by rw [hbr, hbn]; exact hown, fun h => by omega, fun _ => ⟨?_, fun q _ hfq => (by cases hfq), hidx⟩, fun h => by omega⟩
          rw [hbr, hbn, hled]
          simp
        · rw [upd_other _ _ e, upd_other _ _ e]
          refine (h.rounds k hk).ext (ext L') (fun hs1 => ?_)
          have hk1 := (h.rounds k hk).own (by omega)
          have : ((R k).br, (R k).bn) ≠ ((R i).br, (R i).bn) := fun ec => by
            injection ec with _ e2
            have := hk1.1
            have := hown.1
            omega
          simp only [if_neg this]
          exact ((h.rounds k hk).ask hs1).1
    unfold Rnd.tell
    by_cases hrd : r1.reads = true
    · rw [if_pos hrd]
      exact done r1.led _ List.prefix_rfl e1.1 e1.2.1 rfl rfl (fun hc => by simp only at hc; rw [hrd] at hc; cases hc)
    · rw [if_neg hrd]
      cases hp : putL r1.led r1.cmd with
      | some L' =>
        have hL' := putL_some hp
        exact done L' _ hL'.1 e1.1 e1.2.1 rfl rfl (fun _ => hL'.2)
      | none =>
        refine ⟨v, ⟨h.bal, h.node, h.good, fun c hc => hfr { r1 with stage := 4 } e1.1 c (h.fresh c hc), fun k hk => ?_, h.letters⟩, Ext.refl _ _⟩
        by_cases e : k = i
        · subst e
          rw [upd_same, upd_same]
          refine ⟨fun h => by simp only at h; omega, fun _ => ?_, fun h => by simp only at h; omega, fun h => by simp only at h; omega, fun h => by simp only at h; omega⟩
          simp only
          rw [e1.1, e1.2.1]
          exact hown
        · rw [upd_other _ _ e, upd_other _ _ e]
          exact h.rounds k hk
  · rw [if_neg hm, if_neg hm]
    refine ⟨v, ⟨h.bal, h.node, h.good, fun c hc => hfr _ e1.1 c (h.fresh c hc), fun k hk => ?_, h.letters⟩, Ext.refl _ _⟩
    by_cases e : k = i
    · subst e
      rw [upd_same, upd_same]
      refine ⟨fun h => by omega, fun _ => by rw [e1.1, e1.2.1]; exact hown, fun _ => ⟨by rw [e1.1, e1.2.1]; exact k1, _, _, by rw [e1.1, e1.2.1]; exact hd1⟩, fun h => by omega, fun h => by omega⟩
    · rw [upd_other _ _ e, upd_other _ _ e]
      exact h.rounds k hk
end
end Go.Proofs.YtnlncfjibbdimaaDoor
