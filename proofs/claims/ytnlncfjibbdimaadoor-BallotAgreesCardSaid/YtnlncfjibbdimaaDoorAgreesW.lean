/-
  BallotAgrees: the walk.
-/
import Derived.Test.YtnlncfjibbdimaaDoorAgreesM
import Derived.Test.YtnlncfjibbdimaaDoorAlive9
import Derived.Test.YtnlncfjibbdimaaDoorOpen2
import Derived.Deep.DeepCutAuto
import Derived.Deep.CutBlock
namespace Go.Proofs.YtnlncfjibbdimaaDoor
open Go.RowKit
set_option linter.unusedSimpArgs false
set_option linter.unusedVariables false

structure RndR where
  r : Int
  n : Int
  av : Value
  asks : List Int
  tv : Value
  takes : List Int
  tag : Int
  late : Bool
def RndR.cells (o : RndR) : List Value := [.int .i64 o.r, .int .i64 o.n, o.av, o.tv, .int .i64 o.tag, .bool o.late]
def RndR.ok (w : World) (o : RndR) : Prop := IntsAt w 0 w.heap.size o.av o.asks ∧ IntsAt w 0 w.heap.size o.tv o.takes
def RoundsAt (w : World) (v : Value) (os : List RndR) : Prop :=
  ∃ A c, v = .slice A os.length c ∧ os.length ≤ c ∧ c ≤ maxLen ∧ ∀ (i : Nat) (o : RndR), os[i]? = some o → ∃ b k, A = some ⟨b, k, none⟩ ∧ b < w.heap.size ∧ w.rangeAt b (k + i * 6) o.cells ∧ o.ok w
theorem rnd_info : (Tryd.prog.info? 45).map (·.size) = some 6 := by kernel_rfl
theorem pend_info : (Tryd.prog.info? 48).map (·.size) = some 4 := by kernel_rfl
theorem which7 (N : Int) : ∃ j : Nat, j < 7 ∧ (wrap64 (N.tmod 7 + 7)).tmod 7 = j := by
  have := whichN N (n := 7) (by omega) (by omega)
  simpa using this

theorem inf48 : InfoOf Tryd.prog 48 4 64 := InfoOf.of (z := .agg #[.int .i64 0, .int .i64 0, .slice none 0 0, .slice none 0 0]) (by kernel_rfl) rfl (by decide) (by decide)
theorem inf32 : InfoOf Tryd.prog 32 1 8 := InfoOf.of (z := .pointer none) (by kernel_rfl) rfl (by decide) (by decide)
theorem rd_one (w : World) (u : Value) (t : TypeId) : Rd (w.alloc (.cells #[u] t)) w.heap.size (w.heap.size + 1) 1 (some ⟨w.heap.size, 0, none⟩) 1 [u] :=
  ⟨rfl, fun _ => ⟨_, rfl, Nat.le_refl _, Nat.lt_succ_self _, fun j x hx => by
    rw [Addr.add_mid, (Blk.new w t #[u]).cell, Nat.zero_add]
    rw [← hx]
    simp⟩⟩
theorem ownsRow_low {w : World} {base base' e size n : Nat} {v : Value} {xs : List Value} (h : w.ownsRow base e size v n xs) (hb : base' ≤ base) : w.ownsRow base' e size v n xs :=
  ⟨h.1, h.2.imp id (fun ⟨g, cap, cur, e1, e2, r⟩ => ⟨g, cap, cur, e1, Nat.le_trans hb e2, r⟩)⟩
/-- While the acceptors are made: k of them. -/
structure MadeAt (W : World) (g : Nat → Nat) (k : Nat) (av : Value) (wr : World) : Prop where
  row : wr.ownsRow W.heap.size 32 1 av k (ptrs g k)
  acc : ∀ i : Nat, i < k → Blk wr (g i) 156 ((Acc.new (i : Int)).cells (.slice none 0 0))
  lea : ∀ i, i < k → W.heap.size ≤ g i
  inj : ∀ i j, i < k → j < k → g i = g j → i = j
  bel : Below W.heap.size W wr

theorem MadeAt.step {W wr w2 w3 : World} {g : Nat → Nat} {k G : Nat} {Aa A3 : Option Addr} {ca c3 : Nat} (h : MadeAt W g k (.slice Aa k ca) wr) (hG : wr.heap.size ≤ G) (hB : Blk w2 G 156 ((Acc.new (k : Int)).cells (.slice none 0 0))) (b2 : Below wr.heap.size wr w2)
    (hown : w3.ownsRow W.heap.size 32 1 (.slice A3 (k + 1) c3) (k + 1) (ptrs g k ++ [.pointer (some ⟨G, 0, none⟩)])) (hg : (w2.alloc (.cells #[.pointer (some ⟨G, 0, none⟩)] 32)).grownBy w3 (Value.slice Aa k ca).ownBlock) : MadeAt W (upd g k G) (k + 1) (.slice A3 (k + 1) c3) w3 := by
  have hb := h.bel.size
  have hs2 := b2.size
  have hGl := hB.lt
  have hG2 : ∀ i, i < k → g i < wr.heap.size := fun i hi => (h.acc i hi).lt
  have f : Fr wr.heap.size (fun q => (Value.slice Aa k ca).ownBlock = some q) wr w3 := ((Fr.of_below b2 _).alloc hs2 (.cells #[.pointer (some ⟨G, 0, none⟩)] 32)).grown hg (by simp; omega) (fun q hq => .inl hq)
  have hne : ∀ {q : Nat} {t : TypeId} {cs : Array Value}, Blk wr q t cs → t ≠ 32 → ¬ (Value.slice Aa k ca).ownBlock = some q := fun {q t cs} hq ht e => by
    obtain ⟨cs', hc⟩ := own_blk h.row e
    exact absurd rfl (blk_ne hc hq (fun e => ht e.symm))
  refine ⟨?_, fun i hi => ?_, fun i hi => ?_, fun i j hi hj he => ?_, ?_⟩
  · have e : ptrs (upd g k G) (k + 1) = ptrs g k ++ [.pointer (some ⟨G, 0, none⟩)] := by
      unfold ptrs
      rw [List.range_succ, List.map_append]
      congr 1
      · apply List.map_congr_left
        intro i hi
        rw [upd_other _ _ (by have := List.mem_range.1 hi; omega)]
      · simp [upd]
    rw [e]
    exact hown
  · by_cases e : i = k
    · subst e
      rw [upd_same]
      have h3 := hB.alloc (.cells #[.pointer (some ⟨G, 0, none⟩)] 32)
      refine h3.grown hg (fun e => ?_)
      obtain ⟨cs', hc⟩ := own_blk h.row e.symm
      have := hc.lt
      omega
    · rw [upd_other _ _ e]
      have h1 := h.acc i (by omega)
      exact h1.fr f h1.lt (hne h1 (by decide))
  · by_cases e : i = k
    · subst e; rw [upd_same]; omega
    · rw [upd_other _ _ e]; exact h.lea i (by omega)
  · by_cases e1 : i = k
    · by_cases e2 : j = k
      · omega
      · subst e1
        rw [upd_same, upd_other _ _ e2] at he
        have := hG2 j (by omega)
        omega
    · by_cases e2 : j = k
      · subst e2
        rw [upd_same, upd_other _ _ e1] at he
        have := hG2 i (by omega)
        omega
      · rw [upd_other _ _ e1, upd_other _ _ e2] at he
        exact h.inj i j (by omega) (by omega) he
  · exact h.bel.trans ((f.mono hb (S' := fun _ => False) (fun q hq hq' => by have := (h.row.lt q hq').1; omega)).below (fun _ _ h => h))

theorem rowB_range {w w' : World} {base : Nat} {A : Option Addr} {n cap k : Nat} {us : List Bl} {b : Bl} {B : Nat} (h : w.ownsRow base 23 2 (.slice A n cap) us.length (balsL us)) (he : us[k]? = some b) (f : Below B w w') (hB : w.heap.size ≤ B) :
    ∃ g o, A = some ⟨g, o, none⟩ ∧ w'.rangeAt g (o + k * 2) (balc b) := by
  have hk := (List.getElem?_eq_some_iff.1 he).1
  obtain ⟨g, cap', cur, hv, _, _, hb, _, hc⟩ := row_at h (by omega)
  have hA : A = some ⟨g, 0, none⟩ := by injection hv
  refine ⟨g, 0, hA, fun j u hj => ?_⟩
  have hb' : Blk w' g 23 cur := hb.below f (by have := hb.lt; omega)
  rw [hb'.cell]
  obtain ⟨h0, h1⟩ := balsL_get he
  have hj2 : j < 2 := (List.getElem?_eq_some_iff.1 hj).1
  refine hc _ _ ?_
  rcases (show j = 0 ∨ j = 1 by omega) with rfl | rfl
  · simp only [Nat.zero_add, Nat.add_zero]; rw [h0]; exact hj
  · simp only [Nat.zero_add]; rw [h1]; exact hj
theorem rd_row (w : World) (xs : List Value) (t : TypeId) (sz : Nat) (h : xs.length = sz) : Rd (w.alloc (.cells xs.toArray t)) w.heap.size (w.heap.size + 1) sz (some ⟨w.heap.size, 0, none⟩) 1 xs :=
  ⟨by omega, fun _ => ⟨_, rfl, Nat.le_refl _, Nat.lt_succ_self _, fun j x hx => by
    rw [Addr.add_mid, (Blk.new w t xs.toArray).cell, Nat.zero_add]
    rw [← hx]
    simp⟩⟩
/-- What waits: nothing, or one round's accepting. -/
def WaitAt (W : World) (M : Nat → Prop) (v : Vt) (us : List Bl) (K : Nat) (wr : World) (wv : Value) (c : Nat) : Prop :=
  ∃ Aw cp, wv = .slice Aw c cp ∧ c ≤ cp ∧ cp ≤ 9223372036854775807 ∧ (c = 0 ∨ (c = 1 ∧ ∃ q r nn L lv tv, Aw = some ⟨q, 0, none⟩ ∧ Blk wr q 48 #[.int .i64 r, .int .i64 nn, lv, tv] ∧ ¬ M q ∧ (r, nn) ∈ us ∧ Pend W M v K r nn L lv tv wr))
theorem WaitAt.map {W wr w2 : World} {M M' : Nat → Prop} {v v' : Vt} {us us' : List Bl} {K K' c : Nat} {wv : Value} (h : WaitAt W M v us K wr wv c)
    (hB : ∀ q cs, Blk wr q 48 cs → ¬ M q → Blk w2 q 48 cs ∧ ¬ M' q) (hu : ∀ b, b ∈ us → b ∈ us') (hP : ∀ r nn L lv tv, (r, nn) ∈ us → Pend W M v K r nn L lv tv wr → Pend W M' v' K' r nn L lv tv w2) : WaitAt W M' v' us' K' w2 wv c := by
  obtain ⟨Aw, cp, h1, h2, h3, h4⟩ := h
  refine ⟨Aw, cp, h1, h2, h3, h4.imp id ?_⟩
  rintro ⟨h, q, r, nn, L, lv, tv, h1, h2, h3, h4, h5⟩
  obtain ⟨g1, g2⟩ := hB q _ h2 h3
  exact ⟨h, q, r, nn, L, lv, tv, h1, g1, g2, hu _ h4, hP r nn L lv tv h4 h5⟩
theorem WaitAt.below {W wr w2 : World} {M : Nat → Prop} {v : Vt} {us : List Bl} {K c : Nat} {wv : Value} (h : WaitAt W M v us K wr wv c) (f : Below wr.heap.size wr w2) : WaitAt W M v us K w2 wv c :=
  h.map (fun q cs hb hm => ⟨hb.below f hb.lt, hm⟩) (fun _ h => h) (fun _ _ _ _ _ _ hp => hp.below f)
theorem WaitAt.weaken {W wr : World} {M : Nat → Prop} {v : Vt} {us : List Bl} {K K' c : Nat} {wv : Value} (h : WaitAt W M v us K wr wv c) (hK : K ≤ K') : WaitAt W M v us K' wr wv c :=
  h.map (fun q cs hb hm => ⟨hb, hm⟩) (fun _ h => h) (fun _ _ _ _ _ _ hp => hp.weaken hK)
theorem WaitAt.none_ (W wr : World) (M : Nat → Prop) (v : Vt) (us : List Bl) (K cp : Nat) (A : Option Addr) (h : cp ≤ 9223372036854775807) : WaitAt W M v us K wr (.slice A 0 cp) 0 := ⟨A, cp, rfl, Nat.zero_le _, h, .inl rfl⟩
theorem used_all {W wr w1 w2 : World} {B n half ga E K nu c : Nat} {g : Nat → Nat} {A : Option Addr} {M MG : Nat → Prop} {s : Nat → Acc} {es : List Ent} {v : Vt} {us : List Bl} {uv uv' wv : Value} {r nn : Int} (hL : LawAt W B n half g A ga M MG s es v us E K uv wr) (hW : WaitAt W M v us K wr wv c) (hnu : nu = us.length)
    (b1 : Below wr.heap.size wr w1) (hrow : w2.ownsRow W.heap.size 23 2 uv' (nu + 1) (balsL us ++ [.int .i64 r, .int .i64 nn])) (hg : w1.grownBy w2 uv.ownBlock) (ho : uv'.ownBlock = uv.ownBlock ∨ uv'.ownBlock = some w1.heap.size) :
    LawAt W B n half g A ga (fun q => M q ∨ uv'.ownBlock = some q) MG s es v (us ++ [(r, nn)]) E K uv' w2 ∧ WaitAt W (fun q => M q ∨ uv'.ownBlock = some q) v us K w2 wv c ∧
      ∀ q t cs, Blk wr q t cs → t ≠ 23 → ¬ M q → Blk w2 q t cs ∧ ¬ (M q ∨ uv'.ownBlock = some q) := by
  have hB : ∀ q t cs, Blk wr q t cs → t ≠ 23 → ¬ M q → Blk w2 q t cs ∧ ¬ (M q ∨ uv'.ownBlock = some q) := fun q t cs hb ht hm => by
    have h2 : Blk w2 q t cs := (hb.below b1 hb.lt).grown hg (fun e => by
      obtain ⟨cs', hc⟩ := own_blk hL.row e.symm
      exact absurd rfl (blk_ne hc hb (fun e => ht e.symm)))
    refine ⟨h2, fun h => ?_⟩
    rcases h with h | h
    · exact hm h
    · obtain ⟨cs', hc⟩ := own_blk hrow h
      exact absurd rfl (blk_ne hc h2 (fun e => ht e.symm))
  refine ⟨hL.used (b := (r, nn)) b1 (by rw [← hnu]; exact hrow) hg ho, hW.map (fun q cs hb hm => hB q 48 cs hb (by decide) hm) (fun _ h => h) (fun _ _ _ _ _ _ hp => hp.used (fun q hq => (hL.rowM q hq).1) b1 hg ho), hB⟩
theorem asked_all {W wr w2 : World} {B n half ga E K c : Nat} {g : Nat → Nat} {A : Option Addr} {M MG : Nat → Prop} {s : Nat → Acc} {es : List Ent} {v : Vt} {us us' : List Bl} {uv wv tv : Value} {r nn tag : Int} {e : Ending} {takes : List Int} (hL : LawAt W B n half g A ga M MG s es v us' E K uv wr) (hW : WaitAt W M v us K wr wv c)
    (hn : v.prop (r, nn) = none) (hmem : (r, nn) ∈ us') (htk : IntsAt W 0 W.heap.size tv takes) (hp : BAskPost M wr B n half K g v r nn tag tv e w2) :
    ∃ bb AL nL cL s' L' v', e = .returned (.tuple #[.agg #[.int .i64 r, .int .i64 nn, .slice AL nL cL, tv], .bool bb]) ∧ LawAt W B n half g A ga M MG s' es v' us' E (K + 1) uv w2 ∧ WaitAt W M v' us (K + 1) w2 wv c ∧ (bb = true → Pend W M v' (K + 1) r nn L' (.slice AL nL cL) tv w2) ∧
      ∀ q t cs, Blk wr q t cs → ¬ M q → Blk w2 q t cs := by
  obtain ⟨bb, lv', s', L', rfl, hacc, hlf, hbt, hbf, hshort, hL', f⟩ := hp
  obtain ⟨AL, cL, hlv, _⟩ : ∃ AL cL, lv' = .slice AL L'.length cL ∧ True := by
    obtain ⟨lo, hi, h1, _⟩ := hlf
    obtain ⟨a, b, c, _⟩ := h1.form
    exact ⟨a, b, c, trivial⟩
  subst hlv
  have hS : ∀ k, (∃ i, i < n ∧ k = g i) → M k := fun k hk => by
    obtain ⟨i, hi, rfl⟩ := hk
    exact hL.accs.in_ i hi
  have hun : ∀ i, v.voted (r, nn) i = false := fun i => by
    cases hv : v.voted (r, nn) i with
    | false => rfl
    | true => exact absurd hn (hL.bal.votes _ _ hv).2.1
  have hB : ∀ q t cs, Blk wr q t cs → ¬ M q → Blk w2 q t cs := fun q t cs hb hm => hb.fr f hb.lt (fun hk => hm (hS q hk))
  cases bb with
  | false =>
    refine ⟨false, AL, L'.length, cL, s', L', v, rfl, (hL.weaken (Nat.le_refl _) (Nat.le_succ K)).asked (r := r) (nn := nn) (L := []) hacc (hbf rfl) (.inl rfl) (fun i hi => Nat.le_succ_of_le (hshort i hi)) f, hW.map (fun q cs hb hm => ⟨hB q _ cs hb hm, hm⟩) (fun _ h => h) (fun _ _ _ _ _ _ hp => (hp.asked (r := r) (nn := nn) (L := []) (.inl rfl) f hS).weaken (Nat.le_succ K)), fun h => (by cases h), hB⟩
  | true =>
    refine ⟨true, AL, L'.length, cL, s', L', ⟨fun c => if c = (r, nn) then some L' else v.prop c, v.voted⟩, rfl, (hL.weaken (Nat.le_refl _) (Nat.le_succ K)).asked (L := L') hacc (hbt rfl) (.inr ⟨hn, hmem, rfl⟩) (fun i hi => Nat.le_succ_of_le (hshort i hi)) f, hW.map (fun q cs hb hm => ⟨hB q _ cs hb hm, hm⟩) (fun _ h => h) (fun _ _ _ _ _ _ hp => (hp.asked (L := L') (.inr ⟨hn, rfl⟩) f hS).weaken (Nat.le_succ K)), fun _ => ⟨hlf, by simp, hun, hL', takes, htk⟩, hB⟩
/-- What a round's accepting leaves. -/
def TakenPost (W : World) (B n half : Nat) (g : Nat → Nat) (A : Option Addr) (ga : Nat) (M : Nat → Prop) (v : Vt) (us : List Bl) (E K : Nat) (uv : Value) (r nn : Int) (wr : World) (e : Ending) (w2 : World) : Prop :=
  e = .returned (.bool true) ∧ ∃ M' MG' s' es' v', LawAt W B n half g A ga M' MG' s' es' v' us (E + 1) K uv w2 ∧ (∀ K' r' nn' L' lv' tv', (r', nn') ≠ (r, nn) → Pend W M v K' r' nn' L' lv' tv' wr → Pend W M' v' K' r' nn' L' lv' tv' w2) ∧ ∀ q t cs, Blk wr q t cs → ¬ M q → Blk w2 q t cs ∧ ¬ M' q
theorem take_all {W wr : World} {B n H ga E K cA : Nat} {g : Nat → Nat} {A : Option Addr} {M MG : Nat → Prop} {s : Nat → Acc} {es : List Ent} {v : Vt} {us : List Bl} {uv lv tv : Value} {r nn : Int} {L : List Cmd} {Ad : Nat → Addr} (hL : LawAt W B n H g A ga M MG s es v us E K uv wr) (hp : Pend W M v K r nn L lv tv wr)
    (h0 : W.cell? ⟨0, 0, none⟩ = some (errv (Ad 0))) (h3 : W.cell? ⟨3, 0, none⟩ = some (errv (Ad 3))) (hn1 : 0 < n) (hn7 : n ≤ 7) (hH : H ≤ 1000) (hE : E ≤ 900) :
    Calls Tryd.prog 28 #[.slice A n cA, .pointer (some ⟨ga, 0, none⟩), .agg #[.int .i64 r, .int .i64 nn, lv, tv], .int .i64 (H : Nat)] wr (TakenPost W B n H g A ga M v us E K uv r nn wr) := by
  have h00 := World.block_lt_of_cell? W _ h0
  have h03 := World.block_lt_of_cell? W _ h3
  simp only at h00 h03
  have hb := hL.bel
  obtain ⟨tk, htk⟩ := hp.tk
  refine (btake_any wr M MG B n H K cA ga 0 W.heap.size g A es v r nn L lv tv tk s Ad ((hb.cell (p := ⟨0, 0, none⟩) h00).trans h0) ((hb.cell (p := ⟨3, 0, none⟩) h03).trans h3) (fun q hq => by have := hL.low q hq; omega) hL.accs hL.ptr hL.ag hp.led hL.bal hL.fair hp.prop hp.un hL.short hp.hL hL.lt hL.sub hL.gG hn1 hn7 hH (by have := hL.hes; omega)
    (htk.fr (Fr.of_below hb (fun _ => False)) (Nat.le_refl _) (fun _ _ _ h => h)) hb.size (fun m hm => .inr (hL.low m hm))).mono ?_
  rintro e w2 ⟨rfl, M', MG', s', es', seen, hT⟩
  refine ⟨rfl, M', MG', s', es', vts v (r, nn) seen, hL.took hT, fun K' r' nn' L' lv' tv' hne hq => hq.took hL.accs.in_ hL.sub hT hne, fun q t cs hq hm => ⟨hq.fr hT.fr hq.lt (fun hk => hm ?_), fun hm' => ?_⟩⟩
  · rcases hk with ⟨i, hi, rfl⟩ | hk
    · exact hL.accs.in_ i hi
    · exact hL.sub _ hk
  · rcases hT.new q hm' with h | h
    · exact hm h
    · have := hq.lt; omega
/-- Within a round, while what waited is accepted: k4 of cw are. -/
def InRnd (W : World) (B n H : Nat) (g : Nat → Nat) (A : Option Addr) (ga : Nat) (us : List Bl) (k : Nat) (uv wv : Value) (cw k4 : Nat) (d : Bool) (r nn : Int) (L : List Cmd) (lv tv : Value) (xc : Array Value) (x y : Nat) (w : World) : Prop :=
  ∃ M MG s es v E, LawAt W B n H g A ga M MG s es v (us ++ [(r, nn)]) E (k + 1) uv w ∧ (k4 = 0 → WaitAt W M v us (k + 1) w wv cw) ∧ (d = true → Pend W M v (k + 1) r nn L lv tv w) ∧ Blk w x 45 xc ∧ ¬ M x ∧ Blk w y 48 #[.int .i64 r, .int .i64 nn, lv, tv] ∧ ¬ M y ∧ E + (cw - k4) + (if d = true then 1 else 0) ≤ k + 1
/-- Behind the rounds, while what still waited is accepted. -/
def InEnd (W : World) (B n H : Nat) (g : Nat → Nat) (A : Option Addr) (ga : Nat) (us : List Bl) (k : Nat) (uv wv : Value) (cw k5 : Nat) (w : World) : Prop :=
  ∃ M MG s es v E, LawAt W B n H g A ga M MG s es v us E k uv w ∧ (k5 = 0 → WaitAt W M v us k w wv cw) ∧ E + (cw - k5) ≤ k
theorem MadeAt.start {W wr w3 : World} {g : Nat → Nat} {n H ga ub : Nat} {Aa : Option Addr} {ca : Nat} (h : MadeAt W g n (.slice Aa n ca) wr) (hn : 0 < n) (hH : H = n / 2 + 1) (hb : Below wr.heap.size wr w3) (hga : wr.heap.size ≤ ga) (hG : Blk w3 ga 42 #[.slice none 0 0, .slice none 0 0, .slice none 0 0]) (hub : wr.heap.size ≤ ub) (hU : Blk w3 ub 23 #[]) :
    ∃ M MG, LawAt W wr.heap.size n H g Aa ga M MG (fun i => Acc.new (i : Int)) [] ⟨fun _ => none, fun _ _ => false⟩ [] 0 0 (.slice (some ⟨ub, 0, none⟩) 0 0) w3 := by
  have hs := hb.size
  have hbW := h.bel.size
  obtain ⟨kk, cap, cur, hv, hk1, hk2, hkb, _, hkc⟩ := row_at h.row hn
  have hAa : Aa = some ⟨kk, 0, none⟩ := by injection hv
  have hkl := hkb.lt
  have hgl : ∀ i, i < n → g i < wr.heap.size := fun i hi => (h.acc i hi).lt
  have hne : ∀ i, i < n → g i ≠ kk := fun i hi => blk_ne (h.acc i hi) hkb (by decide)
  have hgu : ga ≠ ub := blk_ne hG hU (by decide)
  refine ⟨fun q => (∃ i, i < n ∧ q = g i) ∨ q = ga ∨ q = ub, fun q => q = ga, ?_⟩
  refine ⟨⟨fun i hi => ⟨wr.heap.size, wr.heap.size, ⟨hgl i hi, Nat.le_refl _, hs, _, (h.acc i hi).below hb (hgl i hi), (OwnLed.nil_ _ _ _).at_⟩, fun m _ => by omega⟩, fun i hi => .inl ⟨i, hi, rfl⟩, h.inj, hs⟩, ?_, ?_, Ballots.start _ (by omega) (fun i hi => rfl), fun e he => (by cases he), fun c hc => absurd rfl hc, ?_, fun q hq => ?_, fun i hi => by simp [Acc.new], Nat.le_refl _, fun q hq => ?_, fun q hq => .inr (.inl hq), fun i hi e => by have := hgl i hi; omega, fun q hq => ?_, h.bel.trans (hb.mono hbW)⟩
  · refine ⟨kk, kk + 1, ⟨by simp [ptrs], fun _ => ⟨⟨kk, 0, none⟩, hAa, Nat.le_refl _, Nat.lt_succ_self _, fun j u hu => ?_⟩⟩, by omega, fun m hm => ?_⟩
    · rw [Addr.add_mid, ((hkb.below hb hkl).cell _), Nat.zero_add]
      exact hkc j u hu
    · rcases hm with ⟨i, hi, rfl⟩ | rfl | rfl
      · have := hne i hi; omega
      · omega
      · omega
  · refine ⟨.slice none 0 0, .slice none 0 0, .slice none 0 0, [], hG, World.ownsRow_nil _ _ _ _, World.ownsRow_nil _ _ _ _, World.ownsRow_nil _ _ _ _, rfl, fun k hk => by simp [Value.ownBlock] at hk, fun k hk => by simp [Value.ownBlock] at hk, fun k hk => by simp [Value.ownBlock] at hk, rfl, fun i v e h1 => by simp at h1⟩
  · exact ⟨rfl, .inr ⟨ub, 0, #[], rfl, by omega, hU, Nat.le_refl _, by simp [maxLen], by simp, by simp [balsL]⟩⟩
  · simp [Value.ownBlock] at hq
    subst hq
    exact ⟨.inr (.inr rfl), fun e => hgu e.symm⟩
  · rcases hq with ⟨i, hi, rfl⟩ | rfl | rfl
    · have := hgl i hi; omega
    · exact hG.lt
    · exact hU.lt
  · rcases hq with ⟨i, hi, rfl⟩ | rfl | rfl
    · exact h.lea i hi
    · omega
    · omega

set_option maxRecDepth 100000 in
set_option maxHeartbeats 1600000 in
theorem agrees_any (N : Int) (v : Value) (os : List RndR) (W : World) (Ad : Nat → Addr) (h0 : W.cell? ⟨0, 0, none⟩ = some (errv (Ad 0))) (h3 : W.cell? ⟨3, 0, none⟩ = some (errv (Ad 3))) (hS : RoundsAt W v os) :
    Calls Tryd.prog 4 #[.int .i64 N, v] W fun e W' => e = .returned (.bool true) ∧ Below W.heap.size W W' := by
  have h00 := World.block_lt_of_cell? W _ h0
  have h03 := World.block_lt_of_cell? W _ h3
  simp only at h00 h03
  obtain ⟨j, hj, hwj⟩ := which7 N
  have hS' := hS
  obtain ⟨D, c, rfl, hlc, hcm, hel⟩ := hS'
  obtain ⟨n0, hn0⟩ : ∃ n0, n0 = os.length := ⟨_, rfl⟩
  rw [← hn0] at hlc ⊢
  have HN0 := Lib.hid hn0
  have HEL := Lib.hid hel
  have hcm' : c ≤ 9223372036854775807 := by simpa only [maxLen] using hcm
  clear hn0 hel hS
  go_enter Tryd.func4, Tryd.ntmps4
  go_wp2_with (fail)
  refine (alive9_any _ (Ad 3) h3).mono ?_
  rintro e w1 ⟨rfl, hb1⟩
  go_upto_if 33 with (fail)
  go_cut [1] (fun sv wx => ∃ (os' : List RndR) (D' : Option Addr) (c' n' : Nat), sv = .slice D' n' c' ∧ Hid (n' = os'.length) ∧ Hid (RoundsAt W (.slice D' os'.length c') os') ∧ n' ≤ 200 ∧ n' ≤ c' ∧ wx = w1)
  case first =>
    by_cases hbig : 200 < n0
    · go_wp2_with (fail)
      go_meet
      have hn : n0 = os.length := HN0.out
      have hl : (os.take 200).length = 200 := by rw [List.length_take]; omega
      refine ⟨os.take 200, D, 200, 200, rfl, Lib.hid hl.symm, Lib.hid ⟨D, 200, by rw [hl], by omega, by simp [maxLen], fun i o ho => ?_⟩, Nat.le_refl _, Nat.le_refl _, rfl⟩
      have hi : i < 200 := by have := (List.getElem?_eq_some_iff.1 ho).1; omega
      rw [List.getElem?_take_of_lt hi] at ho
      exact HEL.out i o ho
    · go_wp2_with (fail)
      go_meet
      have hn : n0 = os.length := HN0.out
      exact ⟨os, D, c, n0, rfl, Lib.hid hn, Lib.hid ⟨D, c, rfl, by omega, hcm, HEL.out⟩, by omega, hlc, rfl⟩
  case rest =>
    obtain ⟨os, D, c, n0, rfl, HN0, HR, hn0, hlc, rfl⟩ := hcut
    obtain ⟨n, hn⟩ : ∃ n : Nat, n = j + 1 := ⟨_, rfl⟩
    have hjn : (j : Int) + 1 = (n : Nat) := by omega
    rw [hjn]
    have hn7 : n ≤ 7 := by omega
    have hn1 : 0 < n := by omega
    clear hjn hwj hn hj
    obtain ⟨W1, hW1⟩ : ∃ W1, W1 = wc := ⟨_, rfl⟩
    rw [← hW1] at hb1 ⊢
    clear hW1
    have hbs : ∀ (G : Nat) (w : World), (Instr.buildSlice 31 1 #[(0, .pointer (some ⟨G, 0, none⟩))]).run Tryd.prog w = .ok (.slice (some ⟨w.heap.size, 0, none⟩) 1 1) (w.alloc (.cells #[.pointer (some ⟨G, 0, none⟩)] 32)) := fun G w => by
      obtain ⟨i, z, q1, q2, q3, q4, q5, q6⟩ := inf32
      exact run_build1 31 32 i z (.pointer (some ⟨G, 0, none⟩)) #[.pointer (some ⟨G, 0, none⟩)] rfl Tryd.underlying31 q1 q2 (by rw [q3]; rfl) (by rw [q5]; rfl) (by show 0 < 1; omega) (by show 1 ≤ 16777216; omega) w
    go_wp2_with (fail)
    go_loopw [5, 6] (fun av i wr => ∃ (k : Nat) (g : Nat → Nat), k ≤ n ∧ i = .int .i64 k ∧ Hid (MadeAt W g k av wr)) (fun _ i _ => n - (intOf i).toNat)
    case atStart => exact ⟨0, fun _ => 0, Nat.zero_le _, rfl, Lib.hid ⟨ownsRow_low (World.ownsRow_made W1 #[] 0 (Nat.le_refl _) (by simp [maxLen]) (by simp)) hb1.size, fun i hi => absurd hi (by omega), fun i hi => absurd hi (by omega), fun i j hi => absurd hi (by omega), hb1.alloc hb1.size _⟩⟩
    case round =>
      obtain ⟨k, g, hk, rfl, HM⟩ := hrel
      have hM := HM.out
      obtain ⟨Aa, ca, rfl, hka, hca⟩ := row_form hM.row
      by_cases hlt : k < n
      · go_wp2_with (fail)
        refine (new_ok2 k _ (by omega) (by omega)).mono ?_
        rintro e w2 ⟨G, rfl, hG, hGB, b2⟩
        have hrow2 := ownsRow_frS hM.row (Fr.of_below b2 (fun _ => False)) (Nat.le_refl _) (fun _ _ h => h)
        have hrow3 := ownsRow_alloc hrow2 (.cells #[.pointer (some ⟨G, 0, none⟩)] 32)
        obtain ⟨i1, z1, hi1, hz11, hz12, hz13, hz14, _⟩ := inf32
        have HX := Lib.hid (And.intro hM (And.intro hG (And.intro hGB (And.intro b2 hrow3))))
        clear hM hG hGB b2 hrow2 hrow3
        go_wp2_with (first
          | (at_builtin
             refine wpList_append_any (w2.alloc (.cells #[.pointer (some ⟨G, 0, none⟩)] 32)) rfl (.tmp 53) (.tmp 55) 31 rfl W.heap.size 32 i1 z1 1 8 Tryd.underlying31 hi1 hz11 hz12 hz13 hz14 (by decide) (.slice Aa k ca) k (ptrs g k) rfl HX.out.2.2.2.2 w2.heap.size (w2.heap.size + 1) (some ⟨w2.heap.size, 0, none⟩) 1 1 [.pointer (some ⟨G, 0, none⟩)] rfl (rd_one w2 _ 32) (by simp [Value.oneCell']) (by simp only [maxLen]; omega) (by omega) (by have := HX.out.2.2.2.1.size; have := HX.out.1.bel.size; simp; omega) ?_
             intro v3 w3 hown3 hg3 hat3
             obtain ⟨A3, c3, rfl, hk3, hc3⟩ := row_form hown3
             have H3 := Lib.hid (And.intro hown3 hg3)
             clear hown3 hg3 hat3)
          | fail)
        refine ⟨⟨k + 1, upd g k G, by omega, by go_num, ?_⟩, by simp [intOf]; omega⟩
        obtain ⟨hM, hG, hGB, b2, _⟩ := HX.out
        obtain ⟨hown3, hg3⟩ := H3.out
        exact Lib.hid (hM.step hG hGB b2 hown3 hg3)
      · have hkn : n = k := by omega
        subst hkn
        have hhalf : half (n : Nat) = ((n / 2 + 1 : Nat) : Int) := by unfold half; rw [if_neg (by omega)]; omega
        have kh := half_any (n : Nat) (by omega) wr
        rw [hhalf] at kh
        obtain ⟨H, hH⟩ : ∃ H, H = n / 2 + 1 := ⟨_, rfl⟩
        rw [← hH] at kh
        have HKH := Lib.hid kh
        have HH := Lib.hid hH
        clear kh hhalf hH hM
        go_upto_region 18 with (first
          | (go_at_call 25
             refine HKH.out.mono ?_
             rintro e wh ⟨rfl, rfl⟩)
          | fail)
        refine wp_letter (fun W3 => ∃ M MG, LawAt W wr.heap.size n H g Aa wr.heap.size M MG (fun i => Acc.new (i : Int)) [] ⟨fun _ => none, fun _ _ => false⟩ [] 0 0 (.slice (some ⟨wr.heap.size + 1 + 1, 0, none⟩) 0 0) W3)
          (HM.out.start hn1 HH.out ((((Below.refl _ _).alloc (Nat.le_refl _) _).alloc (by simp) _).alloc (by simp; omega) _) (Nat.le_refl _) (((Blk.new wr 42 _).alloc _).alloc _) (by omega) (Blk.newAt (by simp))) ?_
        rintro W3 ⟨M0, MG0, hL0⟩
        obtain ⟨ub, hub⟩ : ∃ ub, ub = wr.heap.size + 1 + 1 := ⟨_, rfl⟩
        rw [← hub] at hL0
        rw [← hub]
        obtain ⟨wb, hwb⟩ : ∃ wb, wb = wr.heap.size + 1 := ⟨_, rfl⟩
        rw [← hwb]
        obtain ⟨ga, hga⟩ : ∃ ga, ga = wr.heap.size := ⟨_, rfl⟩
        rw [← hga] at hL0
        rw [← hga]
        obtain ⟨B, hB⟩ : ∃ B, B = ga := ⟨_, rfl⟩
        have hL0' : LawAt W B n H g Aa ga M0 MG0 (fun i => Acc.new (i : Int)) [] ⟨fun _ => none, fun _ _ => false⟩ [] 0 0 (.slice (some ⟨ub, 0, none⟩) 0 0) W3 := by rw [hB]; exact hL0
        have hH7 : H ≤ 1000 := by have := HH.out; omega
        have HL0 := Lib.hid hL0'
        clear hL0 hL0' hB hga hub hwb
        go_wp2_with (fail)
        go_loopw [11, 12, 65] (fun wv uv i wr => ∃ (k : Nat), k ≤ n0 ∧ i = .int .i64 k ∧ ∃ M MG s es v us E c, LawAt W B n H g Aa ga M MG s es v us E k uv wr ∧ WaitAt W M v us k wr wv c ∧ E + c ≤ k ∧ us.length ≤ k) (fun _ _ i _ => n0 - (intOf i).toNat)
        case atStart => exact ⟨0, Nat.zero_le _, rfl, _, _, _, _, _, _, _, 0, HL0.out, WaitAt.none_ _ _ _ _ _ _ _ _ (by omega), Nat.le_refl _, Nat.le_refl _⟩
        case round =>
          obtain ⟨k, hk, rfl, M, MG, s, es, v, us, E, cw, hL, hWt, hE, hUk⟩ := hrel
          obtain ⟨nu, hnu⟩ : ∃ nu, nu = us.length := ⟨_, rfl⟩
          obtain ⟨AU, cU, rfl, huc, hum⟩ := row_form hL.row
          obtain ⟨Aw, cp, rfl, hcc, hcp, hW4⟩ := hWt
          have hWt : WaitAt W M v us k wr (.slice Aw cw cp) cw := ⟨Aw, cp, rfl, hcc, hcp, hW4⟩
          clear hW4
          rw [← hnu] at hL huc hUk ⊢
          have HNU := Lib.hid hnu
          have hum' : cU ≤ 9223372036854775807 := by simpa only [maxLen] using hum
          clear hnu hum
          by_cases hlt : k < n0
          · have hk' : k < os.length := by rw [← HN0.out]; exact hlt
            obtain ⟨o, ho⟩ : ∃ o, os[k]? = some o := ⟨_, List.getElem?_eq_getElem hk'⟩
            obtain ⟨Dq, cq, hvq, _, _, hel⟩ := HR.out
            have hDq : D = Dq := by injection hvq
            obtain ⟨b, q, hDb, hbW, hrg, hok⟩ := hel k o ho
            rw [← hDq] at hDb
            subst hDb
            have hrange : wr.rangeAt b (q + k * 6) o.cells := rangeAt_fr hrg (Fr.of_below hL.bel (fun _ => False)) hbW (fun h => h)
            have hone : o.cells.toArray.all (·.oneCell') = true := by
              obtain ⟨⟨A1, c1, e1, _⟩, ⟨A2, c2, e2, _⟩⟩ := hok
              simp [RndR.cells, e1, e2, Value.oneCell']
            clear hrg hel hvq hDq ho
            go_upto_region 21 with (first
              | ((with_reducible refine law_load 45 (.tmp 67) b (q + k * 6) o.cells ?_ hrange Tryd.underlying45 ?_ ?_ ?_); rfl; rfl; exact rnd_info)
              | ((with_reducible refine law_store_fresh 45 (.tmp 14) (.tmp 68) wr 45 _ o.cells.toArray ?_ ?_ rfl ?_ ?_ hone ?_); rfl; rfl; exact rnd_info; rfl)
              | fail)
            refine wp_letter (fun W2 => LawAt W B n H g Aa ga M MG s es v us E k (.slice AU nu cU) W2 ∧ WaitAt W M v us k W2 (.slice Aw cw cp) cw ∧ Blk W2 wr.heap.size 45 o.cells.toArray ∧ ¬ M wr.heap.size)
              ⟨hL.below ((Below.refl _ _).alloc (Nat.le_refl _) _), hWt.below ((Below.refl _ _).alloc (Nat.le_refl _) _), Blk.new _ _ _, fun h => by have := hL.lt _ h; omega⟩ ?_
            rintro W2 ⟨hL2, hWt2, hX2, hxM⟩
            obtain ⟨x, hx⟩ : ∃ x, x = wr.heap.size := ⟨_, rfl⟩
            rw [← hx] at hX2 hxM ⊢
            have HXS := Lib.hid (show x = wr.heap.size ∧ W.heap.size ≤ x from ⟨hx, by have := hL.bel.size; omega⟩)
            obtain ⟨r, nn, av, asks, tv, takes, tag, late⟩ := o
            simp only [RndR.cells] at hX2
            obtain ⟨hasks, htakes⟩ := hok
            simp only at hasks htakes
            have cX := hX2.cell
            have hrow2 := hL2.row
            have HOK := Lib.hid (And.intro hasks htakes)
            have HL2 := Lib.hid (And.intro hL2 (And.intro hWt2 (And.intro hX2 hxM)))
            clear hL hWt hL2 hWt2 hxM hrange hone hx hasks htakes
            go_wp2_with (fail)
            go_loopw [15, 71] (fun a i w3 => ∃ (k3 : Nat) (bb : Bool), k3 ≤ nu ∧ i = .int .i64 k3 ∧ a = .bool bb ∧ Hid (bb = true ↔ (r, nn) ∈ us.take k3) ∧ Below W2.heap.size W2 w3) (fun _ i _ => nu - (intOf i).toNat)
            case atStart => exact ⟨0, false, Nat.zero_le _, rfl, rfl, Lib.hid (by simp), Below.refl _ _⟩
            case round =>
              obtain ⟨k3, bb, hk3, rfl, rfl, hbb, hb3⟩ := hrel
              by_cases hlt3 : k3 < nu
              · have hk3' : k3 < us.length := by rw [← HNU.out]; exact hlt3
                obtain ⟨c0, hc0⟩ : ∃ c0, us[k3]? = some c0 := ⟨_, List.getElem?_eq_getElem hk3'⟩
                obtain ⟨ku, ou, rfl, hru⟩ := rowB_range hrow2 hc0 hb3 (Nat.le_refl _)
                obtain ⟨c1, c2⟩ := c0
                simp only [balc] at hru
                have htk : us.take (k3 + 1) = us.take k3 ++ [(c1, c2)] := by rw [List.take_add_one, hc0]; rfl
                have HTK := Lib.hid htk
                clear htk hc0
                have hX3 := hX2.below hb3 hX2.lt
                go_upto_region 25 with (first
                  | ((with_reducible refine law_load 23 (.tmp 73) ku (ou + k3 * 2) [.int .i64 c1, .int .i64 c2] ?_ hru Tryd.underlying23 ?_ ?_ ?_); rfl; rfl; exact bal_inf2)
                  | ((with_reducible refine law_store_fresh 23 (.tmp 17) (.tmp 74) wr 23 _ #[.int .i64 c1, .int .i64 c2] ?_ ?_ rfl ?_ ?_ ?_ ?_); rfl; rfl; exact bal_inf2; rfl; rfl)
                  | fail)
                refine wp_letter (fun W3 => Below W2.heap.size W2 W3 ∧ Blk W3 wr.heap.size 23 #[.int .i64 c1, .int .i64 c2] ∧ Blk W3 x 45 #[.int .i64 r, .int .i64 nn, av, tv, .int .i64 tag, .bool late])
                  ⟨hb3.alloc hb3.size _, Blk.new _ _ _, hX3.alloc _⟩ ?_
                rintro W3 ⟨hb4, hY4, hX4⟩
                obtain ⟨y, hy⟩ : ∃ y, y = wr.heap.size := ⟨_, rfl⟩
                rw [← hy] at hY4 ⊢
                clear hy hX3 hru hb3
                have cX4 := hX4.cell
                have cY4 := hY4.cell
                have HB4 := Lib.hid hb4
                clear hX4 hY4 hb4
                cases bb with
                | true =>
                  go_wp2_with (fail)
                  refine ⟨⟨k3 + 1, true, by omega, by go_num, rfl, Lib.hid ⟨fun _ => ?_, fun _ => rfl⟩, HB4.out⟩, by simp [intOf]; omega⟩
                  rw [HTK.out]
                  exact List.mem_append_left _ (hbb.1 rfl)
                | false =>
                  have hno : (r, nn) ∉ us.take k3 := fun h => by have := hbb.2 h; cases this
                  by_cases hq : (c1, c2) = (r, nn)
                  · obtain ⟨rfl, rfl⟩ : c1 = r ∧ c2 = nn := by simpa using hq
                    have heq := eq23_yes c1 c2
                    go_wp2_with (fail)
                    refine ⟨⟨k3 + 1, true, by omega, by go_num, rfl, Lib.hid ⟨fun _ => ?_, fun _ => rfl⟩, HB4.out⟩, by simp [intOf]; omega⟩
                    rw [HTK.out]
                    simp
                  · have heq := eq23_no hq
                    go_wp2_with (fail)
                    refine ⟨⟨k3 + 1, false, by omega, by go_num, rfl, Lib.hid ⟨fun h => (by cases h), fun h => ?_⟩, HB4.out⟩, by simp [intOf]; omega⟩
                    rw [HTK.out] at h
                    rcases List.mem_append.1 h with h | h
                    · exact absurd h hno
                    · rw [List.mem_singleton] at h
                      exact absurd h.symm hq
              · have hk3n : nu = k3 := by omega
                subst hk3n
                have hbb' : bb = true ↔ (r, nn) ∈ us := by
                  have := hbb
                  rw [HNU.out, List.take_length] at this
                  exact this
                obtain ⟨hL2, hWt2, hX2', hxM⟩ := HL2.out
                have hL3 := hL2.below hb3
                have hWt3 := hWt2.below hb3
                have hX3 := hX2'.below hb3 hX2'.lt
                cases bb with
                | true =>
                  have HR3 := Lib.hid (And.intro hL3 hWt3)
                  clear hL2 hWt2 hX2' hxM hL3 hWt3 hX3 hX2 hrow2 hbb
                  go_wp2_with (fail)
                  refine ⟨⟨k + 1, by omega, by go_num, _, _, _, _, _, _, _, _, HR3.out.1.weaken (Nat.le_refl _) (Nat.le_succ k), HR3.out.2.weaken (Nat.le_succ k), by omega, by have := HNU.out; omega⟩, by simp [intOf]; omega⟩
                | false =>
                  have hnew : (r, nn) ∉ us := fun h => by have := hbb'.2 h; cases this
                  have hpn : v.prop (r, nn) = none := by
                    cases hp : v.prop (r, nn) with
                    | none => rfl
                    | some L0 => exact absurd (hL2.props (r, nn) (by rw [hp]; simp)) hnew
                  obtain ⟨i2, z2, hi2, hz21, hz22, hz23, hz24, _⟩ := inf23
                  have hrow3 := ownsRow_alloc hL3.row (.cells #[.int .i64 r, .int .i64 nn] 23)
                  rw [← HNU.out] at hrow3
                  have hbW := hL3.bel.size
                  have cX3 := hX3.cell
                  have H3 := Lib.hid (And.intro hL3 (And.intro hWt3 (And.intro hX3 (And.intro hxM hrow3))))
                  have HN3 := Lib.hid (And.intro hnew hpn)
                  clear hL2 hWt2 hX2' hxM hL3 hWt3 hX3 hX2 hrow2 hbb hnew hpn cX hbb' hrow3 hb3
                  go_upto_region 29 with (first
                    | ((with_reducible refine law_buildSlice1 38 23 (.tmp 86) i2 z2 #[.int .i64 r, .int .i64 nn] 2 ?_ Tryd.underlying38 hi2 hz21 hz22 hz24 ?_ (by decide) (by decide) ?_); rfl; rfl)
                    | (at_builtin
                       refine wpList_append_any (wr.alloc (.cells #[.int .i64 r, .int .i64 nn] 23)) rfl (.tmp 84) (.tmp 87) 38 rfl W.heap.size 23 i2 z2 2 16 Tryd.underlying38 hi2 hz21 hz22 hz23 hz24 (by decide) (.slice AU nu cU) nu (balsL us) rfl H3.out.2.2.2.2 wr.heap.size (wr.heap.size + 1) (some ⟨wr.heap.size, 0, none⟩) 1 1 [.int .i64 r, .int .i64 nn] rfl (rd_row wr _ 23 2 rfl) (by simp [Value.oneCell']) (by simp only [maxLen]; omega) (by omega) (by simp; omega) ?_
                       intro v3 w3 hown3 hg3 hat3
                       obtain ⟨A3, c3, rfl, hk3', hc3⟩ := row_form hown3)
                    | fail)
                  obtain ⟨hL4, hWt4, hB4⟩ := used_all H3.out.1 H3.out.2.1 HNU.out ((Below.refl _ _).alloc (Nat.le_refl _) _) hown3 hg3 hat3
                  obtain ⟨hX4, hxM4⟩ := hB4 x 45 _ H3.out.2.2.1 (by decide) H3.out.2.2.2.1
                  obtain ⟨M1, hM1⟩ : ∃ M1 : Nat → Prop, M1 = (fun q => M q ∨ (Value.slice A3 (nu + 1) c3).ownBlock = some q) := ⟨_, rfl⟩
                  rw [← hM1] at hL4 hWt4
                  have hxM4' : ¬ M1 x := by rw [hM1]; exact hxM4
                  have hc3' : c3 ≤ 9223372036854775807 := by simpa only [maxLen] using hc3
                  clear hM1 hxM4 hB4 hown3 hg3 hat3 cX3 hc3
                  obtain ⟨hasks, htakes⟩ := HOK.out
                  have hlow4 : ∀ q, M1 q → 4 ≤ q := fun q hq => by have := hL4.low q hq; omega
                  have hb4 := hL4.bel
                  have htv : ∃ At kt ct, tv = .slice At kt ct := by obtain ⟨A1, c1, e1, _⟩ := htakes; exact ⟨_, _, _, e1⟩
                  obtain ⟨At, kt, ct, rfl⟩ := htv
                  have kask := ask_any w3 M1 B n H k ca 0 W.heap.size g Aa v r nn tag av (.slice At kt ct) late asks s Ad ((hb4.cell (p := ⟨0, 0, none⟩) h00).trans h0) ((hb4.cell (p := ⟨3, 0, none⟩) h03).trans h3) hlow4 hL4.accs hL4.ptr hL4.bal HN3.out.2 hL4.short hL4.lt hn1 hn7 hH7 (by omega)
                    (hasks.fr (Fr.of_below hb4 (fun _ => False)) (Nat.le_refl _) (fun _ _ _ h => h)) hb4.size (fun m hm => .inr (hL4.low m hm)) ⟨At, kt, ct, rfl⟩
                  have hrX := Blk.range (cs := [.int .i64 r, .int .i64 nn, av, .slice At kt ct, .int .i64 tag, .bool late]) hX4
                  have HK := Lib.hid (show Calls Tryd.prog 27 _ w3 _ from kask.mono (fun e w' hp => asked_all hL4 hWt4 HN3.out.2 (List.mem_append_right _ (List.mem_singleton.2 rfl)) htakes hp))
                  have HX4 := Lib.hid (And.intro hX4 hxM4')
                  have hnew := Lib.hid HN3.out.1
                  clear kask hL4 hWt4 hX4 hxM4' hasks htakes hlow4 hb4 H3 HN3 HL2
                  go_upto_region 30 with (first
                    | ((with_reducible refine law_load 45 (.tmp 14) x 0 [.int .i64 r, .int .i64 nn, av, .slice At kt ct, .int .i64 tag, .bool late] ?_ hrX Tryd.underlying45 ?_ ?_ ?_); rfl; rfl; exact rnd_info)
                    | (go_at_call 27
                       refine HK.out.mono ?_
                       rintro e w4 ⟨bb, AL, nL, cL, s', L', v', rfl, hL5, hWt5, hP5, hB5⟩
                       have H5 := Lib.hid (And.intro hL5 (And.intro hWt5 (And.intro hP5 hB5)))
                       clear hL5 hWt5 hP5 hB5)
                    | ((with_reducible refine law_store_fresh 48 (.tmp 18) (.tmp 94) w4 48 _ #[.int .i64 r, .int .i64 nn, .slice AL nL cL, .slice At kt ct] ?_ ?_ rfl ?_ ?_ ?_ ?_); rfl; rfl; exact pend_info; rfl; rfl)
                    | fail)
                  refine wp_letter (fun W5 => LawAt W B n H g Aa ga M1 MG s' es v' (us ++ [(r, nn)]) E (k + 1) (.slice A3 (nu + 1) c3) W5 ∧ WaitAt W M1 v' us (k + 1) W5 (.slice Aw cw cp) cw ∧ (bb = true → Pend W M1 v' (k + 1) r nn L' (.slice AL nL cL) (.slice At kt ct) W5) ∧
                      Blk W5 x 45 #[.int .i64 r, .int .i64 nn, av, .slice At kt ct, .int .i64 tag, .bool late] ∧ ¬ M1 x ∧ Blk W5 w4.heap.size 48 #[.int .i64 r, .int .i64 nn, .slice AL nL cL, .slice At kt ct] ∧ ¬ M1 w4.heap.size)
                    ⟨H5.out.1.below ((Below.refl _ _).alloc (Nat.le_refl _) _), H5.out.2.1.below ((Below.refl _ _).alloc (Nat.le_refl _) _), fun h => (H5.out.2.2.1 h).below ((Below.refl _ _).alloc (Nat.le_refl _) _), (H5.out.2.2.2 x 45 _ HX4.out.1 HX4.out.2).alloc _, HX4.out.2, Blk.new _ _ _, fun h => by have := H5.out.1.lt _ h; omega⟩ ?_
                  rintro W5 ⟨hL5, hWt5, hP5, hX5, hxM5, hY5, hyM5⟩
                  obtain ⟨y, hy⟩ : ∃ y, y = w4.heap.size := ⟨_, rfl⟩
                  rw [← hy] at hY5 hyM5 ⊢
                  clear hy H5 HX4 HK hrX
                  go_cut [109] (fun c9 wx => c9 = .bool false ∧ ∃ M MG s es v E', LawAt W B n H g Aa ga M MG s es v (us ++ [(r, nn)]) E' (k + 1) (.slice A3 (nu + 1) c3) wx ∧ WaitAt W M v us (k + 1) wx (.slice Aw cw cp) cw ∧ ((bb && late) = true → Pend W M v (k + 1) r nn L' (.slice AL nL cL) (.slice At kt ct) wx) ∧
                      Blk wx x 45 #[.int .i64 r, .int .i64 nn, av, .slice At kt ct, .int .i64 tag, .bool late] ∧ ¬ M x ∧ Blk wx y 48 #[.int .i64 r, .int .i64 nn, .slice AL nL cL, .slice At kt ct] ∧ ¬ M y ∧ E' + cw + (if (bb && late) = true then 1 else 0) ≤ k + 1)
                  case first =>
                    have cX := hX5.cell
                    have cY := hY5.cell
                    cases bb with
                    | false =>
                      have HS := Lib.hid (And.intro hL5 (And.intro hWt5 (And.intro hX5 (And.intro hxM5 (And.intro hY5 hyM5)))))
                      clear hL5 hWt5 hP5 hX5 hxM5 hY5 hyM5
                      go_wp2_with (fail)
                      go_meet
                      exact ⟨rfl, _, _, _, _, _, E, HS.out.1, HS.out.2.1, fun h => (by cases h), HS.out.2.2.1, HS.out.2.2.2.1, HS.out.2.2.2.2.1, HS.out.2.2.2.2.2, by simp; omega⟩
                    | true =>
                      cases late with
                      | true =>
                        have HS := Lib.hid (And.intro hL5 (And.intro hWt5 (And.intro hX5 (And.intro hxM5 (And.intro hY5 (And.intro hyM5 (hP5 rfl)))))))
                        clear hL5 hWt5 hP5 hX5 hxM5 hY5 hyM5
                        go_wp2_with (fail)
                        go_meet
                        exact ⟨rfl, _, _, _, _, _, E, HS.out.1, HS.out.2.1, fun _ => HS.out.2.2.2.2.2.2, HS.out.2.2.1, HS.out.2.2.2.1, HS.out.2.2.2.2.1, HS.out.2.2.2.2.2.1, by simp; omega⟩
                      | false =>
                        have kt := take_all (cA := ca) hL5 (hP5 rfl) h0 h3 hn1 hn7 hH7 (by omega)
                        have HK := Lib.hid kt
                        have HS := Lib.hid (And.intro hWt5 (And.intro hX5 (And.intro hxM5 (And.intro hY5 hyM5))))
                        clear kt hL5 hWt5 hP5 hX5 hxM5 hY5 hyM5
                        go_wp2_with (first
                          | (go_at_call 28
                             refine HK.out.mono ?_
                             rintro e w6 ⟨rfl, M6, MG6, s6, es6, v6, hL6, hP6, hB6⟩
                             have H6 := Lib.hid (And.intro hL6 (And.intro hP6 hB6))
                             clear hL6 hP6 hB6)
                          | fail)
                        go_meet
                        obtain ⟨hWt5, hX5, hxM5, hY5, hyM5⟩ := HS.out
                        obtain ⟨hL6, hP6, hB6⟩ := H6.out
                        obtain ⟨q1, q2⟩ := hB6 _ _ _ hX5 hxM5
                        obtain ⟨q3, q4⟩ := hB6 _ _ _ hY5 hyM5
                        refine ⟨rfl, _, _, _, _, _, E + 1, hL6, hWt5.map (fun q cs hb hm => hB6 q _ cs hb hm) (fun _ h => h) (fun r1 n1 L1 lv1 tv1 hm hp => hP6 _ _ _ _ _ _ (fun e => hnew.out (e ▸ hm)) hp), fun h => (by cases h), q1, q2, q3, q4, by simp; omega⟩
                  case rest =>
                    obtain ⟨rfl, M6, MG6, s6, es6, v6, E6, hL6, hWt6, hP6, hX6, hxM6, hY6, hyM6, hE6⟩ := hcut
                    clear hL5 hWt5 hP5 hX5 hxM5 hY5 hyM5
                    obtain ⟨W6, hW6⟩ : ∃ W6, W6 = wc := ⟨_, rfl⟩
                    rw [← hW6] at hL6 hWt6 hP6 hX6 hY6 ⊢
                    clear hW6
                    have hcw : cw ≤ 1 := by obtain ⟨_, _, _, _, _, h | ⟨h, _⟩⟩ := hWt6 <;> omega
                    have HS := Lib.hid (show InRnd W B n H g Aa ga us k (.slice A3 (nu + 1) c3) (.slice Aw cw cp) cw 0 (bb && late) r nn L' (.slice AL nL cL) (.slice At kt ct) #[.int .i64 r, .int .i64 nn, av, .slice At kt ct, .int .i64 tag, .bool late] x y W6 from ⟨_, _, _, _, _, E6, hL6, fun _ => hWt6, hP6, hX6, hxM6, hY6, hyM6, hE6⟩)
                    clear hL6 hWt6 hP6 hX6 hxM6 hY6 hyM6 hE6
                    go_wp2_with (fail)
                    go_loopw [112] (fun i w7 => ∃ (k4 : Nat), k4 ≤ cw ∧ i = .int .i64 k4 ∧ InRnd W B n H g Aa ga us k (.slice A3 (nu + 1) c3) (.slice Aw cw cp) cw k4 (bb && late) r nn L' (.slice AL nL cL) (.slice At kt ct) #[.int .i64 r, .int .i64 nn, av, .slice At kt ct, .int .i64 tag, .bool late] x y w7) (fun i _ => cw - (intOf i).toNat)
                    case atStart => exact ⟨0, Nat.zero_le _, rfl, HS.out⟩
                    case round =>
                      obtain ⟨k4, hk4, rfl, M7, MG7, s7, es7, v7, E7, hL7, hWt7, hP7, hX7, hxM7, hY7, hyM7, hE7⟩ := hrel
                      by_cases hlt4 : k4 < cw
                      · have hk40 : k4 = 0 := by omega
                        obtain ⟨Aw', cp', hwv, _, _, hc0 | ⟨hc1, q7, r7, n7, L7, lv7, tv7, rfl, hQ7, hqM7, hm7, hp7⟩⟩ := hWt7 hk40
                        · omega
                        obtain rfl : Aw = some ⟨q7, 0, none⟩ := by injection hwv
                        have hrQ : wr.rangeAt q7 (k4 * 4) [.int .i64 r7, .int .i64 n7, lv7, tv7] := by rw [hk40]; exact Blk.range hQ7
                        have hne7 : (r7, n7) ≠ (r, nn) := fun e => hnew.out (e ▸ hm7)
                        have kt := take_all (cA := ca) hL7 hp7 h0 h3 hn1 hn7 hH7 (by omega)
                        obtain ⟨Al, nl, cl, rfl⟩ : ∃ Al nl cl, lv7 = .slice Al nl cl := by
                          obtain ⟨_, _, h1, _⟩ := hp7.led
                          obtain ⟨a, b, h2, _⟩ := h1.form
                          exact ⟨_, _, _, h2⟩
                        obtain ⟨Av, nv, cv, rfl⟩ : ∃ Av nv cv, tv7 = .slice Av nv cv := by
                          obtain ⟨tk, A1, c1, h1, _⟩ := hp7.tk
                          exact ⟨_, _, _, h1⟩
                        have HS7 := Lib.hid (And.intro hL7 (And.intro hp7 (And.intro hP7 (And.intro hX7 (And.intro hxM7 (And.intro hY7 (And.intro hyM7 (And.intro hne7 (And.intro hE7 (And.intro hk40 hc1))))))))))
                        clear hL7 hp7 hP7 hX7 hxM7 hY7 hyM7 hQ7 hE7 kt hk40 hm7 hne7 hWt7 hwv hc1
                        go_upto_region 35 with (first
                          | ((with_reducible refine law_load 48 (.tmp 114) q7 (k4 * 4) [.int .i64 r7, .int .i64 n7, .slice Al nl cl, .slice Av nv cv] ?_ hrQ Tryd.underlying48 ?_ ?_ ?_); rfl; rfl; exact pend_info)
                          | ((with_reducible refine law_store_fresh 48 (.tmp 21) (.tmp 115) wr 48 _ #[.int .i64 r7, .int .i64 n7, .slice Al nl cl, .slice Av nv cv] ?_ ?_ rfl ?_ ?_ ?_ ?_); rfl; rfl; exact pend_info; rfl; rfl)
                          | fail)
                        refine wp_letter (fun W8 => Below wr.heap.size wr W8 ∧ Blk W8 wr.heap.size 48 #[.int .i64 r7, .int .i64 n7, .slice Al nl cl, .slice Av nv cv]) ⟨(Below.refl _ _).alloc (Nat.le_refl _) _, Blk.new _ _ _⟩ ?_
                        rintro W8 ⟨hb8, hZ8⟩
                        obtain ⟨z, hz⟩ : ∃ z, z = wr.heap.size := ⟨_, rfl⟩
                        rw [← hz] at hZ8 ⊢
                        have hrZ : W8.rangeAt z 0 [.int .i64 r7, .int .i64 n7, .slice Al nl cl, .slice Av nv cv] := Blk.range hZ8
                        have HK := Lib.hid (take_all (cA := ca) (HS7.out.1.below hb8) (HS7.out.2.1.below hb8) h0 h3 hn1 hn7 hH7 (by have := HS7.out.2.2.2.2.2.2.2.2.1; omega))
                        have HB8 := Lib.hid hb8
                        clear hz hZ8 hb8 hrQ
                        go_wp2_with (first
                          | ((with_reducible refine law_load 48 (.tmp 21) z 0 [.int .i64 r7, .int .i64 n7, .slice Al nl cl, .slice Av nv cv] ?_ hrZ Tryd.underlying48 ?_ ?_ ?_); rfl; rfl; exact pend_info)
                          | (go_at_call 28
                             refine HK.out.mono ?_
                             rintro e w9 ⟨rfl, M9, MG9, s9, es9, v9, hL9, hP9, hB9⟩
                             have H9 := Lib.hid (And.intro hL9 (And.intro hP9 hB9))
                             clear hL9 hP9 hB9)
                          | fail)
                        obtain ⟨hL7, hp7, hP7, hX7, hxM7, hY7, hyM7, hne7, hE7, hk40, hc1⟩ := HS7.out
                        obtain ⟨hL9, hP9, hB9⟩ := H9.out
                        obtain ⟨q1, q2⟩ := hB9 _ _ _ (hX7.below HB8.out hX7.lt) hxM7
                        obtain ⟨q3, q4⟩ := hB9 _ _ _ (hY7.below HB8.out hY7.lt) hyM7
                        refine ⟨⟨k4 + 1, by omega, by go_num, _, _, _, _, _, E7 + 1, hL9, fun h => absurd h (by omega), fun h => hP9 _ _ _ _ _ _ (Ne.symm hne7) ((hP7 h).below HB8.out), q1, q2, q3, q4, by omega⟩, by simp [intOf]; omega⟩
                      · have hk4n : cw = k4 := by omega
                        have HS7 := Lib.hid (And.intro hL7 (And.intro hP7 (And.intro hX7 (And.intro hxM7 (And.intro hY7 (And.intro hyM7 (And.intro hE7 hk4n)))))))
                        have cX7 := hX7.cell
                        have hrY := Blk.range (cs := [.int .i64 r, .int .i64 nn, .slice AL nL cL, .slice At kt ct]) hY7
                        clear hL7 hWt7 hP7 hX7 hxM7 hY7 hyM7 hE7 hk4n
                        have HUL := Lib.hid (show (us ++ [(r, nn)]).length = nu + 1 from by rw [List.length_append, ← HNU.out]; rfl)
                        cases bb with
                        | false =>
                          go_wp2_with (fail)
                          obtain ⟨hL7, hP7, hX7, hxM7, hY7, hyM7, hE7, hk4n⟩ := HS7.out
                          refine ⟨⟨k + 1, by omega, by go_num, _, _, _, _, _, _, _, 0, hL7, WaitAt.none_ _ _ _ _ _ _ _ _ (by omega), by omega, by have := HUL.out; omega⟩, by simp [intOf]; omega⟩
                        | true =>
                          cases late with
                          | false =>
                            go_wp2_with (fail)
                            obtain ⟨hL7, hP7, hX7, hxM7, hY7, hyM7, hE7, hk4n⟩ := HS7.out
                            refine ⟨⟨k + 1, by omega, by go_num, _, _, _, _, _, _, _, 0, hL7, WaitAt.none_ _ _ _ _ _ _ _ _ (by omega), by omega, by have := HUL.out; omega⟩, by simp [intOf]; omega⟩
                          | true =>
                            obtain ⟨i4, z4, hi4, hz41, hz42, hz43, hz44, _⟩ := inf48
                            go_wp2_with (first
                              | ((with_reducible refine law_load 48 (.tmp 18) y 0 [.int .i64 r, .int .i64 nn, .slice AL nL cL, .slice At kt ct] ?_ hrY Tryd.underlying48 ?_ ?_ ?_); rfl; rfl; exact pend_info)
                              | ((with_reducible refine law_buildSlice1 43 48 (.tmp 128) i4 z4 #[.int .i64 r, .int .i64 nn, .slice AL nL cL, .slice At kt ct] 4 ?_ Tryd.underlying43 hi4 hz41 hz42 hz44 ?_ (by decide) (by decide) ?_); rfl; rfl)
                              | fail)
                            obtain ⟨hL7, hP7, hX7, hxM7, hY7, hyM7, hE7, hk4n⟩ := HS7.out
                            have hba : Below wr.heap.size wr (wr.alloc (.cells #[.int .i64 r, .int .i64 nn, .slice AL nL cL, .slice At kt ct] 48)) := (Below.refl _ _).alloc (Nat.le_refl _) _
                            have hE7' : E7 + 1 ≤ k + 1 := by simp only [Bool.and_self, if_true] at hE7; omega
                            refine ⟨⟨k + 1, by omega, by go_num, _, _, _, _, _, _, _, 1, hL7.below hba, ⟨_, 1, rfl, Nat.le_refl _, by omega, .inr ⟨rfl, wr.heap.size, r, nn, L', _, _, rfl, Blk.new _ _ _, fun h => by have := hL7.lt _ h; omega, List.mem_append_right _ (List.mem_singleton.2 rfl), (hP7 rfl).below hba⟩⟩, hE7', by have := HUL.out; omega⟩, by simp [intOf]; omega⟩
          · have hcw : cw ≤ 1 := by obtain ⟨_, _, _, _, _, h | ⟨h, _⟩⟩ := hWt <;> omega
            have HS := Lib.hid (show InEnd W B n H g Aa ga us k (.slice AU nu cU) (.slice Aw cw cp) cw 0 wr from ⟨_, _, _, _, _, E, hL, fun _ => hWt, hE⟩)
            clear hL hWt hE
            go_wp2_with (fail)
            go_loopw [133] (fun i w7 => ∃ (k5 : Nat), k5 ≤ cw ∧ i = .int .i64 k5 ∧ InEnd W B n H g Aa ga us k (.slice AU nu cU) (.slice Aw cw cp) cw k5 w7) (fun i _ => cw - (intOf i).toNat)
            case atStart => exact ⟨0, Nat.zero_le _, rfl, HS.out⟩
            case round =>
              obtain ⟨k5, hk5, rfl, M7, MG7, s7, es7, v7, E7, hL7, hWt7, hE7⟩ := hrel
              by_cases hlt5 : k5 < cw
              · have hk50 : k5 = 0 := by omega
                obtain ⟨Aw', cp', hwv, _, _, hc0 | ⟨hc1, q7, r7, n7, L7, lv7, tv7, rfl, hQ7, hqM7, hm7, hp7⟩⟩ := hWt7 hk50
                · omega
                obtain rfl : Aw = some ⟨q7, 0, none⟩ := by injection hwv
                have hrQ : wr.rangeAt q7 (k5 * 4) [.int .i64 r7, .int .i64 n7, lv7, tv7] := by rw [hk50]; exact Blk.range hQ7
                obtain ⟨Al, nl, cl, rfl⟩ : ∃ Al nl cl, lv7 = .slice Al nl cl := by
                  obtain ⟨_, _, h1, _⟩ := hp7.led
                  obtain ⟨a, b, h2, _⟩ := h1.form
                  exact ⟨_, _, _, h2⟩
                obtain ⟨Av, nv, cv, rfl⟩ : ∃ Av nv cv, tv7 = .slice Av nv cv := by
                  obtain ⟨tk, A1, c1, h1, _⟩ := hp7.tk
                  exact ⟨_, _, _, h1⟩
                have HS7 := Lib.hid (And.intro hL7 (And.intro hp7 (And.intro hE7 (And.intro hk50 hc1))))
                clear hL7 hp7 hQ7 hE7 hk50 hm7 hWt7 hwv hc1
                go_upto_region 45 with (first
                  | ((with_reducible refine law_load 48 (.tmp 135) q7 (k5 * 4) [.int .i64 r7, .int .i64 n7, .slice Al nl cl, .slice Av nv cv] ?_ hrQ Tryd.underlying48 ?_ ?_ ?_); rfl; rfl; exact pend_info)
                  | ((with_reducible refine law_store_fresh 48 (.tmp 23) (.tmp 136) wr 48 _ #[.int .i64 r7, .int .i64 n7, .slice Al nl cl, .slice Av nv cv] ?_ ?_ rfl ?_ ?_ ?_ ?_); rfl; rfl; exact pend_info; rfl; rfl)
                  | fail)
                refine wp_letter (fun W8 => Below wr.heap.size wr W8 ∧ Blk W8 wr.heap.size 48 #[.int .i64 r7, .int .i64 n7, .slice Al nl cl, .slice Av nv cv]) ⟨(Below.refl _ _).alloc (Nat.le_refl _) _, Blk.new _ _ _⟩ ?_
                rintro W8 ⟨hb8, hZ8⟩
                obtain ⟨z, hz⟩ : ∃ z, z = wr.heap.size := ⟨_, rfl⟩
                rw [← hz] at hZ8 ⊢
                have hrZ : W8.rangeAt z 0 [.int .i64 r7, .int .i64 n7, .slice Al nl cl, .slice Av nv cv] := Blk.range hZ8
                have HK := Lib.hid (take_all (cA := ca) (HS7.out.1.below hb8) (HS7.out.2.1.below hb8) h0 h3 hn1 hn7 hH7 (by have := HS7.out.2.2.1; omega))
                clear hz hZ8 hb8 hrQ
                go_wp2_with (first
                  | ((with_reducible refine law_load 48 (.tmp 23) z 0 [.int .i64 r7, .int .i64 n7, .slice Al nl cl, .slice Av nv cv] ?_ hrZ Tryd.underlying48 ?_ ?_ ?_); rfl; rfl; exact pend_info)
                  | (go_at_call 28
                     refine HK.out.mono ?_
                     rintro e w9 ⟨rfl, M9, MG9, s9, es9, v9, hL9, hP9, hB9⟩
                     have H9 := Lib.hid hL9
                     clear hL9 hP9 hB9)
                  | fail)
                obtain ⟨hL7, hp7, hE7, hk50, hc1⟩ := HS7.out
                go_roundw
                case rel => exact ⟨k5 + 1, by omega, by go_num, _, _, _, _, _, E7 + 1, H9.out, fun h => absurd h (by omega), by omega⟩
                case measure => simp [intOf]; omega
              · have HE := Lib.hid hL7.bel
                clear hL7 hWt7 hE7
                go_wp2_with (fail)
                go_ret
                exact ⟨rfl, HE.out⟩

end Go.Proofs.YtnlncfjibbdimaaDoor
