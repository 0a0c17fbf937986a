/-
  The plain law behind BallotAgrees and RoundAgrees: proposers that follow the rule agree. No program in sight.
-/
import Derived.Test.YtnlncfjibbdimaaDoorBase
namespace Go.Proofs.YtnlncfjibbdimaaDoor
set_option linter.unusedSimpArgs false
set_option linter.unusedVariables false

abbrev Bl := Int × Int
def blt (a b : Bl) : Prop := a.1 < b.1 ∨ (a.1 = b.1 ∧ a.2 < b.2)
instance (a b : Bl) : Decidable (blt a b) := by unfold blt; exact inferInstance
theorem blt_irrefl (a : Bl) : ¬ blt a a := by unfold blt; omega
theorem blt_trans {a b c : Bl} (h : blt a b) (k : blt b c) : blt a c := by unfold blt at *; omega
theorem blt_of_not {a b : Bl} (h : ¬ blt a b) (hne : a ≠ b) : blt b a := by
  obtain ⟨a1, a2⟩ := a
  obtain ⟨b1, b2⟩ := b
  unfold blt at *
  simp only [ne_eq, Prod.mk.injEq] at hne
  simp only at *
  omega
theorem blt_le {a b c : Bl} (h : blt a b) (k : ¬ blt c b) : blt a c := by unfold blt at *; omega
theorem ble_lt {a b c : Bl} (h : ¬ blt b a) (k : blt b c) : blt a c := by unfold blt at *; omega
theorem ble_trans {a b c : Bl} (h : ¬ blt b a) (k : ¬ blt c b) : ¬ blt c a := by unfold blt at *; omega
theorem ble_antisymm {a b : Bl} (h : ¬ blt a b) (k : ¬ blt b a) : a = b := by
  obtain ⟨a1, a2⟩ := a
  obtain ⟨b1, b2⟩ := b
  unfold blt at *
  simp only [Prod.mk.injEq] at *
  omega

def cnt (n : Nat) (p : Nat → Bool) : Nat := (List.range n).countP p
theorem cnt_mono {n : Nat} {p q : Nat → Bool} (h : ∀ i, i < n → p i = true → q i = true) : cnt n p ≤ cnt n q :=
  List.countP_mono_left fun i hi => h i (by simpa using hi)
theorem cnt_congr {n : Nat} {p q : Nat → Bool} (h : ∀ i, i < n → p i = q i) : cnt n p = cnt n q :=
  Nat.le_antisymm (cnt_mono fun i hi hp => by rw [← h i hi]; exact hp) (cnt_mono fun i hi hp => by rw [h i hi]; exact hp)
theorem cnt_meet {n : Nat} {p q : Nat → Bool} (h : n < cnt n p + cnt n q) : ∃ i, i < n ∧ p i = true ∧ q i = true := by
  refine Classical.byContradiction fun hc => ?_
  have h1 : cnt n p ≤ (List.range n).countP (fun i => ! q i) := List.countP_mono_left fun i hi hp => by
    have hi' : i < n := by simpa using hi
    cases hq : q i with
    | false => rfl
    | true => exact absurd ⟨i, hi', hp, hq⟩ hc
  have h2 := List.length_eq_countP_add_countP q (l := List.range n)
  have h3 : (List.range n).countP (fun i => ! q i) = (List.range n).countP (fun i => decide ¬ q i = true) := by
    congr 1
    funext i
    cases q i <;> rfl
  rw [List.length_range] at h2
  unfold cnt at h h1
  omega
theorem cnt_zero (n : Nat) : cnt n (fun _ => false) = 0 := by unfold cnt; simp
theorem cnt_le (n : Nat) (p : Nat → Bool) : cnt n p ≤ n := by
  have := List.countP_le_length (p := p) (l := List.range n)
  simpa [cnt] using this
def upd {α : Type} (f : Nat → α) (j : Nat) (v : α) : Nat → α := fun i => if i = j then v else f i
theorem upd_same {α : Type} (f : Nat → α) (j : Nat) (v : α) : upd f j v j = v := by simp [upd]
theorem upd_other {α : Type} (f : Nat → α) {j i : Nat} (v : α) (h : i ≠ j) : upd f j v i = f i := by simp [upd, h]
theorem cnt_upd : ∀ {n : Nat} {p : Nat → Bool} {j : Nat}, j < n → p j = false → cnt n (upd p j true) = cnt n p + 1
  | n + 1, p, j, hj, hp => by
    have e1 : ∀ q : Nat → Bool, cnt (n + 1) q = cnt n q + (if q n = true then 1 else 0) := fun q => by
      simp [cnt, List.range_succ, List.countP_append, List.countP_cons]
    rw [e1, e1]
    by_cases h : j = n
    · subst h
      have : cnt j (upd p j true) = cnt j p := cnt_congr fun i hi => upd_other p true (by omega)
      rw [this, upd_same, hp]
      simp
    · have := cnt_upd (n := n) (p := p) (j := j) (by omega) hp
      rw [this, upd_other p true (Ne.symm h)]
      omega

section
variable {α : Type}

/-- What an acceptor holds. -/
structure Acp (α : Type) where
  pr : Bl
  ar : Bl
  led : List α

/-- What has been proposed and voted, beside the acceptors. -/
structure Voting (α : Type) where
  prop : Bl → Option (List α)
  voted : Bl → Nat → Bool

/-- No more can agree on b': more than half are past it and have not voted for it. -/
def past (n : Nat) (acc : Nat → Acp α) (v : Voting α) (b : Bl) : Nat := cnt n fun i => !v.voted b i && decide (blt b (acc i).pr)

structure Ballots (n half : Nat) (acc : Nat → Acp α) (v : Voting α) : Prop where
  more : n < 2 * half
  rises : ∀ i, i < n → ¬ blt (acc i).pr (acc i).ar
  holds : ∀ i, i < n → ((acc i).ar = (0, 0) ∧ (acc i).led = []) ∨ v.prop (acc i).ar = some (acc i).led
  above : ∀ b L, v.prop b = some L → blt (0, 0) b
  votes : ∀ b i, v.voted b i = true → i < n ∧ v.prop b ≠ none ∧ ¬ blt (acc i).ar b
  asked : ∀ b, v.prop b ≠ none → half ≤ cnt n fun i => decide (¬ blt (acc i).pr b)
  safe : ∀ b' b L' L, blt b' b → v.prop b' = some L' → v.prop b = some L → L' <+: L ∨ half ≤ past n acc v b'

variable {n half : Nat} {acc : Nat → Acp α} {v : Voting α}

theorem Ballots.start (acc : Nat → Acp α) (h : n < 2 * half) (h0 : ∀ i, i < n → acc i = ⟨(0, 0), (0, 0), []⟩) : Ballots n half acc ⟨fun _ => none, fun _ _ => false⟩ :=
  ⟨h, fun i hi => by rw [h0 i hi]; exact blt_irrefl _, fun i hi => .inl (by rw [h0 i hi]; exact ⟨rfl, rfl⟩), fun b L h => (by cases h), fun b i h => (by cases h), fun b h => absurd rfl h, fun b' b L' L _ h => (by cases h)⟩

/-- An acceptor promises. -/
theorem Ballots.promise (h : Ballots n half acc v) (j : Nat) (b : Bl) (hb : ¬ blt b (acc j).pr) : Ballots n half (upd acc j { acc j with pr := b }) v := by
  have hpr : ∀ i, ¬ blt ((upd acc j { acc j with pr := b }) i).pr (acc i).pr := fun i => by
    by_cases hi : i = j
    · subst hi; rw [upd_same]; exact hb
    · rw [upd_other _ _ hi]; exact blt_irrefl _
  have har : ∀ i, ((upd acc j { acc j with pr := b }) i).ar = (acc i).ar := fun i => by
    by_cases hi : i = j
    · subst hi; rw [upd_same]
    · rw [upd_other _ _ hi]
  have hled : ∀ i, ((upd acc j { acc j with pr := b }) i).led = (acc i).led := fun i => by
    by_cases hi : i = j
    · subst hi; rw [upd_same]
    · rw [upd_other _ _ hi]
  refine ⟨h.more, fun i hi => ?_, fun i hi => ?_, h.above, fun b' i hv => ?_, fun b' hp => ?_, fun b' c L' L hlt h1 h2 => ?_⟩
  · rw [har]; exact ble_trans (h.rises i hi) (hpr i)
  · rw [har, hled]; exact h.holds i hi
  · rw [har]; exact h.votes b' i hv
  · refine Nat.le_trans (h.asked b' hp) (cnt_mono fun i hi hq => ?_)
    simp only [decide_eq_true_eq] at hq ⊢
    exact ble_trans hq (hpr i)
  · rcases h.safe b' c L' L hlt h1 h2 with h3 | h3
    · exact .inl h3
    · refine .inr (Nat.le_trans h3 (cnt_mono fun i hi hq => ?_))
      simp only [Bool.and_eq_true, decide_eq_true_eq] at hq ⊢
      exact ⟨hq.1, blt_le hq.2 (hpr i)⟩

/-- A round proposes: more than half hold its ballot, and its ledger goes on with the newest of theirs. -/
theorem Ballots.propose (h : Ballots n half acc v) (b : Bl) (hnew : v.prop b = none) (h0 : blt (0, 0) b) (Q : Nat → Bool) (hQ : half ≤ cnt n Q) (hpr : ∀ i, i < n → Q i = true → (acc i).pr = b)
    (m : Bl) (Lm more : List α) (hm : (m = (0, 0) ∧ Lm = []) ∨ ∃ i, i < n ∧ Q i = true ∧ (acc i).ar = m ∧ (acc i).led = Lm) (hmax : ∀ i, i < n → Q i = true → ¬ blt m (acc i).ar) :
    Ballots n half acc ⟨fun c => if c = b then some (Lm ++ more) else v.prop c, v.voted⟩ := by
  have hmp : (m = (0, 0) ∧ Lm = []) ∨ (v.prop m = some Lm ∧ blt m b) := by
    rcases hm with hm | ⟨i, hi, hq, rfl, rfl⟩
    · exact .inl hm
    · rcases h.holds i hi with ⟨h1, h2⟩ | h1
      · exact .inl ⟨h1, h2⟩
      · refine .inr ⟨h1, ?_⟩
        have hr := h.rises i hi
        rw [hpr i hi hq] at hr
        refine Classical.byContradiction fun hc => ?_
        have := ble_antisymm hc hr
        rw [this, hnew] at h1
        cases h1
  have hpast : ∀ c, blt c b → (∀ i, i < n → Q i = true → v.voted c i = false) → half ≤ past n acc v c := fun c hc hv =>
    Nat.le_trans hQ (cnt_mono fun i hi hq => by
      simp only [Bool.and_eq_true, decide_eq_true_eq, Bool.not_eq_true']
      exact ⟨hv i hi hq, by rw [hpr i hi hq]; exact hc⟩)
  refine ⟨h.more, h.rises, fun i hi => ?_, fun c L hc => ?_, fun c i hv => ?_, fun c hc => ?_, fun b' c L' L hlt h1 h2 => ?_⟩
  · rcases h.holds i hi with h1 | h1
    · exact .inl h1
    · right
      have : (acc i).ar ≠ b := fun e => by rw [e, hnew] at h1; cases h1
      simp only [if_neg this]
      exact h1
  · by_cases e : c = b
    · subst e; exact h0
    · simp only [if_neg e] at hc; exact h.above c L hc
  · obtain ⟨h1, h2, h3⟩ := h.votes c i hv
    refine ⟨h1, ?_, h3⟩
    by_cases e : c = b
    · simp [e]
    · simpa only [if_neg e] using h2
  · by_cases e : c = b
    · subst e
      refine Nat.le_trans hQ (cnt_mono fun i hi hq => ?_)
      simp only [decide_eq_true_eq]
      rw [hpr i hi hq]
      exact blt_irrefl _
    · simp only [if_neg e] at hc; exact h.asked c hc
  · show L' <+: L ∨ half ≤ past n acc v b'
    by_cases e : c = b
    · subst e
      have hb' : b' ≠ c := fun e => by subst e; exact blt_irrefl _ hlt
      simp only [if_neg hb'] at h1
      simp only [if_true, Option.some.injEq] at h2
      subst h2
      by_cases hv : ∃ i, i < n ∧ Q i = true ∧ v.voted b' i = true
      · obtain ⟨i, hi, hq, hv⟩ := hv
        obtain ⟨_, _, h3⟩ := h.votes b' i hv
        have hbm : ¬ blt m b' := ble_trans h3 (hmax i hi hq)
        have hm0 := h.above b' L' h1
        rcases hmp with ⟨rfl, _⟩ | ⟨hmp, _⟩
        · exact absurd hm0 hbm
        · by_cases hbm' : blt b' m
          · rcases h.safe b' m L' Lm hbm' h1 hmp with h4 | h4
            · exact .inl (h4.trans (List.prefix_append _ _))
            · exact .inr h4
          · have := ble_antisymm hbm hbm'
            subst this
            rw [hmp] at h1
            injection h1 with h1
            subst h1
            exact .inl (List.prefix_append _ _)
      · refine .inr (hpast b' hlt fun i hi hq => ?_)
        cases hvi : v.voted b' i with
        | false => rfl
        | true => exact absurd ⟨i, hi, hq, hvi⟩ hv
    · simp only [if_neg e] at h2
      by_cases e' : b' = b
      · subst e'
        refine .inr (Nat.le_trans (h.asked c (by rw [h2]; simp)) (cnt_mono fun i hi hq => ?_))
        simp only [decide_eq_true_eq] at hq
        simp only [Bool.and_eq_true, decide_eq_true_eq, Bool.not_eq_true']
        refine ⟨?_, blt_le hlt hq⟩
        cases hvi : v.voted b' i with
        | false => rfl
        | true => exact absurd hnew (h.votes b' i hvi).2.1
      · simp only [if_neg e'] at h1
        exact h.safe b' c L' L hlt h1 h2

/-- An acceptor accepts what has been proposed. -/
theorem Ballots.accept (h : Ballots n half acc v) (j : Nat) (hj : j < n) (b : Bl) (L : List α) (hp : v.prop b = some L) (hb : ¬ blt b (acc j).pr) :
    Ballots n half (upd acc j ⟨b, b, L⟩) ⟨v.prop, fun c => if c = b then upd (v.voted c) j true else v.voted c⟩ := by
  have hpr : ∀ i, ¬ blt ((upd acc j ⟨b, b, L⟩) i).pr (acc i).pr := fun i => by
    by_cases hi : i = j
    · subst hi; rw [upd_same]; exact hb
    · rw [upd_other _ _ hi]; exact blt_irrefl _
  refine ⟨h.more, fun i hi => ?_, fun i hi => ?_, h.above, fun c i hv => ?_, fun c hc => ?_, fun b' c L' L2 hlt h1 h2 => ?_⟩
  · by_cases e : i = j
    · subst e; rw [upd_same]; exact blt_irrefl _
    · rw [upd_other _ _ e]; exact h.rises i hi
  · by_cases e : i = j
    · subst e; rw [upd_same]; exact .inr hp
    · rw [upd_other _ _ e]; exact h.holds i hi
  · by_cases e : i = j
    · subst e
      rw [upd_same]
      simp only at hv ⊢
      by_cases ec : c = b
      · subst ec; exact ⟨hj, by rw [hp]; simp, blt_irrefl _⟩
      · simp only [if_neg ec] at hv
        obtain ⟨h1, h2, h3⟩ := h.votes c i hv
        exact ⟨h1, h2, ble_trans h3 (ble_trans (h.rises i hj) hb)⟩
    · rw [upd_other _ _ e]
      simp only at hv ⊢
      by_cases ec : c = b
      · subst ec
        simp only [if_true, upd_other _ _ e] at hv
        exact h.votes c i hv
      · simp only [if_neg ec] at hv
        exact h.votes c i hv
  · refine Nat.le_trans (h.asked c hc) (cnt_mono fun i hi hq => ?_)
    simp only [decide_eq_true_eq] at hq ⊢
    exact ble_trans hq (hpr i)
  · rcases h.safe b' c L' L2 hlt h1 h2 with h3 | h3
    · exact .inl h3
    · refine .inr (Nat.le_trans h3 (cnt_mono fun i hi hq => ?_))
      simp only [Bool.and_eq_true, decide_eq_true_eq, Bool.not_eq_true'] at hq ⊢
      refine ⟨?_, blt_le hq.2 (hpr i)⟩
      by_cases ec : b' = b
      · subst ec
        simp only [if_true]
        by_cases e : i = j
        · subst e; exact absurd hq.2 hb
        · rw [upd_other _ _ e]; exact hq.1
      · simp only [if_neg ec]; exact hq.1

/-- Of two ledgers that more than half have accepted one is the beginning of the other. -/
theorem Ballots.agree (h : Ballots n half acc v) {b1 b2 : Bl} {L1 L2 : List α} (h1 : v.prop b1 = some L1) (h2 : v.prop b2 = some L2) (k1 : half ≤ cnt n (v.voted b1)) (k2 : half ≤ cnt n (v.voted b2)) :
    L1 <+: L2 ∨ L2 <+: L1 := by
  have key : ∀ c1 c2 M1 M2, blt c1 c2 → v.prop c1 = some M1 → v.prop c2 = some M2 → half ≤ cnt n (v.voted c1) → M1 <+: M2 := by
    intro c1 c2 M1 M2 hlt e1 e2 hk
    rcases h.safe c1 c2 M1 M2 hlt e1 e2 with h3 | h3
    · exact h3
    · obtain ⟨i, _, hp, hq⟩ := cnt_meet (n := n) (p := v.voted c1) (q := fun i => !v.voted c1 i && decide (blt c1 (acc i).pr)) (by
        have := h.more
        unfold past at h3
        omega)
      simp [hp] at hq
  by_cases e : b1 = b2
  · subst e
    rw [h1] at h2
    injection h2 with h2
    subst h2
    exact .inl (List.prefix_rfl)
  · by_cases hlt : blt b1 b2
    · exact .inl (key _ _ _ _ hlt h1 h2 k1)
    · exact .inr (key _ _ _ _ (blt_of_not hlt e) h2 h1 k2)

end
end Go.Proofs.YtnlncfjibbdimaaDoor
