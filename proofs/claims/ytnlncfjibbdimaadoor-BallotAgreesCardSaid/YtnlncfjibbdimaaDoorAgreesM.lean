/-
  BallotAgrees: what the law's loop over the rounds keeps. No walk stands here.
-/
import Derived.Test.YtnlncfjibbdimaaDoorTakeW
import Derived.Test.YtnlncfjibbdimaaDoorAskW
namespace Go.Proofs.YtnlncfjibbdimaaDoor
open Go.RowKit
set_option linter.unusedSimpArgs false
set_option linter.unusedVariables false

def balsL (us : List Bl) : List Value := us.flatMap balc
theorem balsL_length (us : List Bl) : (balsL us).length = us.length * 2 := by
  induction us with
  | nil => rfl
  | cons e es ih =>
    have e1 : balsL (e :: es) = .int .i64 e.1 :: .int .i64 e.2 :: balsL es := rfl
    rw [e1, List.length_cons, List.length_cons, ih, List.length_cons]
    omega
theorem balsL_get : ∀ {us : List Bl} {i : Nat} {b : Bl}, us[i]? = some b → (balsL us)[i * 2]? = some (.int .i64 b.1) ∧ (balsL us)[i * 2 + 1]? = some (.int .i64 b.2)
  | [], i, e, h => by simp at h
  | e0 :: us, 0, e, h => by
    simp at h
    subst h
    exact ⟨rfl, rfl⟩
  | e0 :: us, i + 1, e, h => by
    have h' : us[i]? = some e := by simpa using h
    have := balsL_get h'
    have e1 : balsL (e0 :: us) = .int .i64 e0.1 :: .int .i64 e0.2 :: balsL us := rfl
    rw [e1, show (i + 1) * 2 = i * 2 + 1 + 1 by omega, show i * 2 + 1 + 1 + 1 = (i * 2 + 1) + 1 + 1 by omega]
    simp only [List.getElem?_cons_succ]
    exact this

/-- What the rounds keep. E: no more ballots are counted; K: no ledger is longer. us: the ballots that were used, in the slice uv. -/
structure LawAt (W : World) (B n half : Nat) (g : Nat → Nat) (A : Option Addr) (ga : Nat) (M MG : Nat → Prop) (s : Nat → Acc) (es : List Ent) (v : Vt) (us : List Bl) (E K : Nat) (uv : Value) (wr : World) : Prop where
  accs : AccsF M wr B n g s
  ptr : PtrsF M wr A n g
  ag : AgAt M MG wr ga es
  bal : Ballots n half (fun i => aof (s i)) v
  fair : Fair n v es
  props : ∀ c, v.prop c ≠ none → c ∈ us
  row : wr.ownsRow W.heap.size 23 2 uv us.length (balsL us)
  rowM : ∀ q, uv.ownBlock = some q → M q ∧ ¬ MG q
  short : ∀ i, i < n → (s i).led.length ≤ K
  hes : es.length ≤ E
  lt : ∀ q, M q → q < wr.heap.size
  sub : ∀ q, MG q → M q
  gG : ∀ i, i < n → ¬ MG (g i)
  low : ∀ q, M q → W.heap.size ≤ q
  bel : Below W.heap.size W wr
/-- What is still to be accepted. -/
structure Pend (W : World) (M : Nat → Prop) (v : Vt) (K : Nat) (r nn : Int) (L : List Cmd) (lv tv : Value) (wr : World) : Prop where
  led : Lf M wr lv L
  prop : v.prop (r, nn) = some L
  un : ∀ i, v.voted (r, nn) i = false
  hL : L.length ≤ K
  tk : ∃ tk, IntsAt W 0 W.heap.size tv tk

section
variable {W wr w2 : World} {B n half ga E K : Nat} {g : Nat → Nat} {A : Option Addr} {M MG M' MG' : Nat → Prop} {s s' : Nat → Acc} {es es' : List Ent} {v : Vt} {us : List Bl} {uv : Value} {r nn r' nn' : Int} {L L' : List Cmd} {lv tv lv' tv' : Value} {seen : Nat → Bool}
theorem LawAt.below (h : LawAt W B n half g A ga M MG s es v us E K uv wr) (f : Below wr.heap.size wr w2) : LawAt W B n half g A ga M MG s es v us E K uv w2 :=
  ⟨h.accs.below f (Nat.le_refl _), h.ptr.fr (Fr.of_below f (fun _ => False)) (Nat.le_refl _) (fun _ h => h.elim), h.ag.fr (Fr.of_below f (fun _ => False)) (Nat.le_refl _) (fun _ h => h.elim) (fun _ h => h.elim), h.bal, h.fair, h.props, ownsRow_frS h.row (Fr.of_below f (fun _ => False)) (Nat.le_refl _) (fun _ _ h => h), h.rowM, h.short, h.hes, fun q hq => Nat.lt_of_lt_of_le (h.lt q hq) f.size, h.sub, h.gG, h.low, h.bel.trans (f.mono h.bel.size)⟩
theorem LawAt.weaken (h : LawAt W B n half g A ga M MG s es v us E K uv wr) {E' K' : Nat} (hE : E ≤ E') (hK : K ≤ K') : LawAt W B n half g A ga M MG s es v us E' K' uv wr :=
  ⟨h.accs, h.ptr, h.ag, h.bal, h.fair, h.props, h.row, h.rowM, fun i hi => Nat.le_trans (h.short i hi) hK, Nat.le_trans h.hes hE, h.lt, h.sub, h.gG, h.low, h.bel⟩
theorem Pend.below (h : Pend W M v K r nn L lv tv wr) (f : Below wr.heap.size wr w2) : Pend W M v K r nn L lv tv w2 :=
  ⟨h.led.fr (Fr.of_below f (fun _ => False)) (Nat.le_refl _) (fun _ h => h.elim), h.prop, h.un, h.hL, h.tk⟩
theorem Pend.weaken (h : Pend W M v K r nn L lv tv wr) {K' : Nat} (hK : K ≤ K') : Pend W M v K' r nn L lv tv wr := ⟨h.led, h.prop, h.un, Nat.le_trans h.hL hK, h.tk⟩

/-- One more ballot is used. -/
theorem LawAt.used (h : LawAt W B n half g A ga M MG s es v us E K uv wr) {w1 : World} {b : Bl} {uv' : Value} (b1 : Below wr.heap.size wr w1) (hrow : w2.ownsRow W.heap.size 23 2 uv' (us.length + 1) (balsL us ++ balc b)) (hg : w1.grownBy w2 uv.ownBlock) (ho : uv'.ownBlock = uv.ownBlock ∨ uv'.ownBlock = some w1.heap.size) :
    LawAt W B n half g A ga (fun q => M q ∨ uv'.ownBlock = some q) MG s es v (us ++ [b]) E K uv' w2 := by
  have h1 := h.below b1
  have f : Fr w1.heap.size (fun q => uv.ownBlock = some q) w1 w2 := (Fr.refl w1.heap.size (fun q => uv.ownBlock = some q) w1).grown hg (Nat.le_refl _) (fun k hk => .inl hk)
  have hM : ∀ m, M m ∨ uv'.ownBlock = some m → M m ∨ w1.heap.size ≤ m := fun m hm => by
    rcases hm with hm | hm
    · exact .inl hm
    · rcases ho with ho | ho
      · exact .inl (h.rowM m (ho ▸ hm)).1
      · rw [ho] at hm; injection hm with hm; exact .inr (by omega)
  have hS : ∀ k, uv.ownBlock = some k → M k ∨ uv'.ownBlock = some k := fun k hk => .inl (h.rowM k hk).1
  have hgu : ∀ i, i < n → ¬ uv.ownBlock = some (g i) := fun i hi hk => by
    obtain ⟨cs, hc⟩ := own_blk h.row hk
    obtain ⟨_, _, ⟨_, _, _, u, hu, _⟩, _⟩ := h.accs.acc i hi
    exact absurd rfl (blk_ne hc hu (by decide))
  refine ⟨(h1.accs.grow hM (fun i hi => .inl (h1.accs.in_ i hi))).fr f (Nat.le_refl _) hS hgu, (h1.ptr.grow hM).fr f (Nat.le_refl _) hS, (h1.ag.grow hM (fun _ h => h)).fr f (Nat.le_refl _) hS (fun k hk => (h.rowM k hk).2), h.bal, h.fair, fun c hc => List.mem_append_left _ (h.props c hc), ?_, fun q hq => ⟨.inr hq, ?_⟩, h.short, h.hes, fun q hq => ?_, fun q hq => .inl (h.sub q hq), h.gG, fun q hq => ?_, ?_⟩
  · have e : balsL (us ++ [b]) = balsL us ++ balc b := by simp [balsL]
    rw [e, List.length_append]
    exact hrow
  · rcases ho with ho | ho
    · exact (h.rowM q (ho ▸ hq)).2
    · rw [ho] at hq
      injection hq with hq
      intro hm
      have := h1.lt q (h.sub q hm)
      omega
  · rcases hq with hq | hq
    · have := h1.lt q hq; have := f.size; omega
    · exact (hrow.lt q hq).2
  · rcases hq with hq | hq
    · exact h.low q hq
    · exact (hrow.lt q hq).1
  · exact h1.bel.trans ((f.mono h1.bel.size (S' := fun _ => False) (fun k hk hk' => by have := h.low k (h.rowM k hk').1; omega)).below (fun _ _ h => h))
theorem Pend.used (h : Pend W M v K r nn L lv tv wr) {w1 : World} {uv' : Value} (hu : ∀ q, uv.ownBlock = some q → M q) (b1 : Below wr.heap.size wr w1) (hg : w1.grownBy w2 uv.ownBlock) (ho : uv'.ownBlock = uv.ownBlock ∨ uv'.ownBlock = some w1.heap.size) :
    Pend W (fun q => M q ∨ uv'.ownBlock = some q) v K r nn L lv tv w2 := by
  have h1 := h.below b1
  have f : Fr w1.heap.size (fun q => uv.ownBlock = some q) w1 w2 := (Fr.refl w1.heap.size (fun q => uv.ownBlock = some q) w1).grown hg (Nat.le_refl _) (fun k hk => .inl hk)
  refine ⟨(h1.led.grow (fun m hm => ?_)).fr f (Nat.le_refl _) (fun k hk => .inl (hu k hk)), h.prop, h.un, h.hL, h.tk⟩
  rcases hm with hm | hm
  · exact .inl hm
  · rcases ho with ho | ho
    · exact .inl (hu m (ho ▸ hm))
    · rw [ho] at hm; injection hm with hm; exact .inr (by omega)

/-- Behind ask: acceptors have promised; if more than half have, the round proposes. -/
theorem LawAt.asked (h : LawAt W B n half g A ga M MG s es v us E K uv wr) {s' : Nat → Acc} {v' : Vt} {K' : Nat} (hacc : AccsF M w2 B n g s') (hbal : Ballots n half (fun i => aof (s' i)) v') (hv : v' = v ∨ (v.prop (r, nn) = none ∧ (r, nn) ∈ us ∧ v' = ⟨fun c => if c = (r, nn) then some L else v.prop c, v.voted⟩)) (hshort : ∀ i, i < n → (s' i).led.length ≤ K') (f : Fr wr.heap.size (fun k => ∃ i, i < n ∧ k = g i) wr w2) :
    LawAt W B n half g A ga M MG s' es v' us E K' uv w2 := by
  have hS : ∀ k, (∃ i, i < n ∧ k = g i) → M k := fun k hk => by
    obtain ⟨i, hi, rfl⟩ := hk
    exact h.accs.in_ i hi
  refine ⟨hacc, h.ptr.fr f (Nat.le_refl _) hS, h.ag.fr f (Nat.le_refl _) hS (fun k hk => by obtain ⟨i, hi, rfl⟩ := hk; exact h.gG i hi), hbal, ?_, ?_, ownsRow_frS h.row f (Nat.le_refl _) (fun k hk hk' => ?_), h.rowM, hshort, h.hes, fun q hq => Nat.lt_of_lt_of_le (h.lt q hq) f.size, h.sub, h.gG, h.low, ?_⟩
  · rcases hv with rfl | ⟨hn, _, rfl⟩
    · exact h.fair
    · intro e he
      obtain ⟨h1, h2⟩ := h.fair e he
      refine ⟨?_, h2⟩
      simp only
      rw [if_neg (fun hb => by rw [hb, hn] at h1; cases h1)]
      exact h1
  · rcases hv with rfl | ⟨hn, hmem, rfl⟩
    · exact h.props
    · intro c hc
      by_cases e : c = (r, nn)
      · rw [e]; exact hmem
      · simp only [if_neg e] at hc
        exact h.props c hc
  · obtain ⟨i, hi, rfl⟩ := hk'
    obtain ⟨cs, hc⟩ := own_blk h.row hk
    obtain ⟨_, _, ⟨_, _, _, u, hu, _⟩, _⟩ := h.accs.acc i hi
    exact absurd rfl (blk_ne hc hu (by decide))
  · exact h.bel.trans ((f.mono h.bel.size (S' := fun _ => False) (fun k hk hk' => by have := h.low k (hS k hk'); omega)).below (fun _ _ h => h))
theorem Pend.asked (h : Pend W M v K r' nn' L' lv tv wr) {v' : Vt} {S : Nat → Prop} (hv : v' = v ∨ (v.prop (r, nn) = none ∧ v' = ⟨fun c => if c = (r, nn) then some L else v.prop c, v.voted⟩)) (f : Fr wr.heap.size S wr w2) (hS : ∀ k, S k → M k) : Pend W M v' K r' nn' L' lv tv w2 := by
  refine ⟨h.led.fr f (Nat.le_refl _) hS, ?_, ?_, h.hL, h.tk⟩
  · rcases hv with rfl | ⟨hn, rfl⟩
    · exact h.prop
    · simp only
      rw [if_neg (fun hb => by have := h.prop; rw [hb, hn] at this; cases this)]
      exact h.prop
  · rcases hv with rfl | ⟨hn, rfl⟩
    · exact h.un
    · exact h.un

/-- Behind take. -/
theorem LawAt.took (h : LawAt W B n half g A ga M MG s es v us E K uv wr) {K0 : Nat} (hT : Took M MG wr B n half K0 g A ga es v r nn L lv M' MG' s' es' seen seen w2) : LawAt W B n half g A ga M' MG' s' es' (vts v (r, nn) seen) us (E + 1) K0 uv w2 := by
  have hS : ∀ k, ((∃ i, i < n ∧ k = g i) ∨ MG k) → M k := fun k hk => by
    rcases hk with ⟨i, hi, rfl⟩ | hk
    · exact h.accs.in_ i hi
    · exact h.sub k hk
  refine ⟨hT.accs, hT.ptr, hT.ag, hT.bal, hT.fair, h.props, ownsRow_frS h.row hT.fr (Nat.le_refl _) (fun k hk hk' => ?_), fun q hq => ⟨hT.up q (h.rowM q hq).1, fun hm => ?_⟩, hT.short, ?_, hT.lt, hT.sub, fun i hi => hT.gG hi, fun q hq => ?_, ?_⟩
  · rcases hk' with ⟨i, hi, rfl⟩ | hk'
    · obtain ⟨cs, hc⟩ := own_blk h.row hk
      obtain ⟨_, _, ⟨_, _, _, u, hu, _⟩, _⟩ := h.accs.acc i hi
      exact absurd rfl (blk_ne hc hu (by decide))
    · exact (h.rowM k hk).2 hk'
  · rcases hT.newG q hm with h1 | h1
    · exact (h.rowM q hq).2 h1
    · have := h.lt q (h.rowM q hq).1; omega
  · have := h.hes
    rcases hT.len with h1 | ⟨h1, _⟩ <;> omega
  · rcases hT.new q hq with h1 | h1
    · exact h.low q h1
    · have := h.bel.size; omega
  · exact h.bel.trans ((hT.fr.mono h.bel.size (S' := fun _ => False) (fun k hk hk' => by have := h.low k (hS k hk'); omega)).below (fun _ _ h => h))
theorem Pend.took (h : Pend W M v K r' nn' L' lv' tv' wr) {K0 : Nat} (hacc : ∀ i, i < n → M (g i)) (hsub : ∀ q, MG q → M q) (hT : Took M MG wr B n half K0 g A ga es v r nn L lv M' MG' s' es' seen seen w2) (hne : (r', nn') ≠ (r, nn)) : Pend W M' (vts v (r, nn) seen) K r' nn' L' lv' tv' w2 := by
  refine ⟨(h.led.grow hT.new).fr hT.fr (Nat.le_refl _) (fun k hk => ?_), h.prop, fun i => ?_, h.hL, h.tk⟩
  · rcases hk with ⟨i, hi, rfl⟩ | hk
    · exact hT.up _ (hacc i hi)
    · exact hT.up _ (hsub k hk)
  · simp only [vts, if_neg hne]
    exact h.un i
end

end Go.Proofs.YtnlncfjibbdimaaDoor
