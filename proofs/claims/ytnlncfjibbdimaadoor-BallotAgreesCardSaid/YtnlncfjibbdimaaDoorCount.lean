/-
  BallotAgrees: count: one acceptor more for a ballot.
-/
import Derived.Test.YtnlncfjibbdimaaDoorLanes
import Derived.Test.YtnlncfjibbdimaaDoorSameL
namespace Go.Proofs.YtnlncfjibbdimaaDoor
open Go.RowKit
set_option linter.unusedSimpArgs false
set_option linter.unusedVariables false

theorem st23 : Tryd.prog.stoodInHeld 23 = false := by kernel_rfl
theorem f23 : Tryd.prog.underlying 23 = some (.struct (Tryd.prog.fieldsOf 23)) := by unfold Program.fieldsOf; rw [Tryd.underlying23]
theorem eq23 (a b a' b' : Int) (w : World) : (binOp .eql 23 (.agg #[.int .i64 a, .int .i64 b]) (.agg #[.int .i64 a', .int .i64 b'])).run Tryd.prog w = .ok (.bool (decide (a = a') && decide (b = b'))) w := by
  rw [run_eql_struct, show 10000 = 9999 + 1 from rfl, run_equalIn_struct w 9999 23 _ _ f23 st23]
  simp only [Program.fieldsOf, Tryd.underlying23]
  simp [Op.eqFields, go_sem, part]
  by_cases h1 : a = a' <;> by_cases h2 : b = b' <;> simp [h1, h2]
theorem eq23_yes (a b : Int) (w : World) : (binOp .eql 23 (.agg #[.int .i64 a, .int .i64 b]) (.agg #[.int .i64 a, .int .i64 b])).run Tryd.prog w = .ok (.bool true) w := by rw [eq23]; simp
theorem eq23_no {a b a' b' : Int} (h : (a, b) ≠ (a', b')) (w : World) : (binOp .eql 23 (.agg #[.int .i64 a, .int .i64 b]) (.agg #[.int .i64 a', .int .i64 b'])).run Tryd.prog w = .ok (.bool false) w := by
  rw [eq23]
  simp only [ne_eq, Prod.mk.injEq, not_and] at h
  by_cases h1 : a = a'
  · simp [h1, h h1]
  · simp [h1]
theorem bal_info : (Tryd.prog.info? 23).map (·.size) = some 2 := by kernel_rfl
theorem balc_oneCell (b : Bl) : (balc b).toArray.all (·.oneCell') = true := by simp [balc, Value.oneCell']

/-- One pair of a row. -/
theorem row2_range {w w' : World} {A : Option Addr} {n cap k : Nat} {es : List Ent} {e : Ent} {S : Nat → Prop} {B : Nat} (h : w.ownsRow 0 23 2 (.slice A n cap) n (balcs es)) (he : es[k]? = some e) (f : Below B w w') (hB : w.heap.size ≤ B) :
    ∃ g o, A = some ⟨g, o, none⟩ ∧ w'.rangeAt g (o + k * 2) (balc e.b) := by
  have hk := (List.getElem?_eq_some_iff.1 he).1
  have hl := h.1
  rw [balcs_length] at hl
  obtain ⟨g, cap', cur, hv, _, _, hb, _, hc⟩ := row_at h (by omega)
  have hA : A = some ⟨g, 0, none⟩ := by injection hv
  refine ⟨g, 0, hA, fun j u hj => ?_⟩
  have hb' : Blk w' g 23 cur := hb.below f (by have := hb.lt; omega)
  rw [hb'.cell]
  obtain ⟨h0, h1⟩ := balcs_get he
  have hj2 : j < 2 := (List.getElem?_eq_some_iff.1 hj).1
  refine hc _ _ ?_
  rcases (show j = 0 ∨ j = 1 by omega) with rfl | rfl
  · simp only [Nat.zero_add, Nat.add_zero]; rw [h0]; exact hj
  · simp only [Nat.zero_add]; rw [h1]; exact hj
/-- One cell of a row. -/
theorem row1_cell {w w' : World} {A : Option Addr} {n cap k : Nat} {e : TypeId} {xs : List Value} {u : Value} {B : Nat} (h : w.ownsRow 0 e 1 (.slice A n cap) n xs) (he : xs[k]? = some u) (f : Below B w w') (hB : w.heap.size ≤ B) :
    ∃ g o, A = some ⟨g, o, none⟩ ∧ w'.ownsRow 0 e 1 (.slice (some ⟨g, o, none⟩) n cap) n xs ∧ w'.cell? ⟨g, o + k, none⟩ = some u ∧ w'.frozen? ⟨g, o + k, none⟩ = false ∧ g < w'.heap.size ∧ ∀ y, (w'.setCell ⟨g, o + k, none⟩ y).ownsRow 0 e 1 (.slice (some ⟨g, o, none⟩) n cap) n (xs.set k y) := by
  have hk := (List.getElem?_eq_some_iff.1 he).1
  have hl := h.1
  obtain ⟨g, cap', cur, hv, _, _, hb, _, hc⟩ := row_at h (by omega)
  have hA : A = some ⟨g, 0, none⟩ := by injection hv
  subst hA
  have hb' : Blk w' g e cur := hb.below f (by have := hb.lt; omega)
  have hw' : w'.ownsRow 0 e 1 (.slice (some ⟨g, 0, none⟩) n cap) n xs := by
    have := ownsRow_frS h (Fr.of_below f (fun _ => False)) hB (fun _ _ h => h)
    exact this
  refine ⟨g, 0, rfl, hw', ?_, ?_, hb'.lt, fun y => ?_⟩
  · rw [hb'.cell, Nat.zero_add]; exact hc _ _ he
  · exact hb'.frozen _
  · rw [Nat.zero_add]; exact row_set hw' (by omega)

/-- If more than half have accepted it, it agrees with all that more than half have accepted. -/
def Agreed (half : Nat) (es : List Ent) (b : Bl) (L : List Cmd) : Prop :=
  ∀ es' p e0, Bump es b L es' p → es'[p]? = some e0 → half ≤ e0.c → ∀ e ∈ es', half ≤ e.c → e.L <+: L ∨ L <+: e.L
/-- .. and what has been made since. -/
def Grew (M : Nat → Prop) (w w' : World) : Nat → Prop := fun k => M k ∨ (w.heap.size ≤ k ∧ k < w'.heap.size)
theorem Grew.up {M : Nat → Prop} {w w' : World} {k : Nat} (h : Grew M w w' k) : M k ∨ w.heap.size ≤ k := by
  rcases h with h | h
  · exact .inl h
  · exact .inr h.1
theorem Grew.of {M : Nat → Prop} {w w' : World} {k : Nat} (h : M k) : Grew M w w' k := .inl h
def CountPost (M MG : Nat → Prop) (w : World) (ga : Nat) (es : List Ent) (b : Bl) (L : List Cmd) (e : Ending) (w' : World) : Prop :=
  e = .returned (.bool true) ∧ ∃ es' p, Bump es b L es' p ∧ AgAt (Grew M w w') (Grew MG w w') w' ga es' ∧ Fr w.heap.size MG w w'

/-- What the search has found in the first k. -/
def Found (es : List Ent) (b : Bl) (k : Nat) (z : Int) : Prop := (z = -1 ∧ ∀ i e, i < k → es[i]? = some e → e.b ≠ b) ∨ ∃ p e, z = (p : Nat) ∧ p < k ∧ es[p]? = some e ∧ e.b = b
theorem Found.start (es : List Ent) (b : Bl) : Found es b 0 (-1) := .inl ⟨rfl, fun i e h => absurd h (by omega)⟩
theorem Found.yes {es : List Ent} {b : Bl} {k : Nat} {e : Ent} (he : es[k]? = some e) (hb : e.b = b) : Found es b (k + 1) (k : Nat) := .inr ⟨k, e, rfl, by omega, he, hb⟩
theorem Found.no {es : List Ent} {b : Bl} {k : Nat} {z : Int} {e : Ent} (h : Found es b k z) (he : es[k]? = some e) (hb : e.b ≠ b) : Found es b (k + 1) z := by
  rcases h with ⟨h1, h2⟩ | ⟨p, e', h1, h2, h3⟩
  · refine .inl ⟨h1, fun i e' hi he' => ?_⟩
    by_cases hik : i = k
    · subst hik; rw [he] at he'; cases he'; exact hb
    · exact h2 i e' (by omega) he'
  · exact .inr ⟨p, e', h1, by omega, h3⟩

theorem inf23 : InfoOf Tryd.prog 23 2 16 := InfoOf.of (z := .agg #[.int .i64 0, .int .i64 0]) (by kernel_rfl) rfl (by decide) (by decide)
theorem inf46 : InfoOf Tryd.prog 46 1 24 := InfoOf.of (z := .slice none 0 0) (by kernel_rfl) rfl (by decide) (by decide)
theorem inf3 : InfoOf Tryd.prog 3 1 8 := InfoOf.of (z := .int .i64 0) (by kernel_rfl) rfl (by decide) (by decide)
theorem sz38 : (Tryd.prog.info? 38).map (·.size) = some 1 := by kernel_rfl
theorem sz39 : (Tryd.prog.info? 39).map (·.size) = some 1 := by kernel_rfl
theorem sz40 : (Tryd.prog.info? 40).map (·.size) = some 1 := by kernel_rfl

/-- At the counting: the entry is there. -/
def CntMid (M MG : Nat → Prop) (w : World) (ga : Nat) (es : List Ent) (b : Bl) (L : List Cmd) (at_ : Value) (wx : World) : Prop :=
  ∃ (p : Nat) (es1 : List Ent) (e0 : Ent), at_ = .int .i64 (p : Nat) ∧ es1[p]? = some e0 ∧ es1.length ≤ 1001 ∧ e0.c ≤ 1000 ∧ Bump es b L (es1.set p ⟨e0.b, e0.L, e0.c + 1⟩) p ∧ AgAt (Grew M w wx) (Grew MG w wx) wx ga es1 ∧ Fr w.heap.size MG w wx
theorem balcs_snoc (es : List Ent) (e : Ent) : balcs (es ++ [e]) = balcs es ++ [.int .i64 e.b.1, .int .i64 e.b.2] := by simp [balcs, balc]
theorem cntcs_snoc (es : List Ent) (e : Ent) : cntcs (es ++ [e]) = cntcs es ++ [.int .i64 (e.c : Nat)] := by simp [cntcs]
theorem CntMid.new {M MG : Nat → Prop} {w wr wx : World} {ga x n N : Nat} {es : List Ent} {r nn : Int} {L : List Cmd} {lv u1 u2 u3 : Value} {vs : List Value} {b : Bl} (hbw : Below w.heap.size w wr) (hN : N = wr.heap.size) (hMG : ∀ k, MG k → M k) (hga : MG ga)
    (hn : n = es.length) (hlen : n ≤ 1000) (hno : ∀ (i : Nat) e, i < n → es[i]? = some e → e.b ≠ (r, nn)) (hvl : vs.length = es.length) (hvs : ∀ (i : Nat) (v : Value) (e : Ent), vs[i]? = some v → es[i]? = some e → Lf M w v e.L) (hL : Lf M w lv L)
    (R : R9 N MG wr ga x u1 u2 u3 b wx) (A : L2 N MG 23 2 n (balcs es) [.int .i64 r, .int .i64 nn] u1 wx) (B : L2 N MG 46 1 n vs [lv] u2 wx) (C : L2 N MG 3 1 n (cntcs es) [.int .i64 0] u3 wx) :
    CntMid M MG w ga es (r, nn) L (.int .i64 (n : Nat)) wx := by
  have hf : Fr w.heap.size MG w wx := (Fr.of_below hbw MG).step R.fr (by rw [hN]; exact hbw.size) (fun k _ h => h)
  have hw1 := hbw.size
  have up : ∀ (v : Value) (l : List Cmd), Lf M w v l → Lf (Grew M w wx) wx v l := fun v l h =>
    (h.grow (M' := Grew M w wx) (fun m hm => hm.up)).fr hf (Nat.le_refl _) (fun k hk => .of (hMG k hk))
  have hown : ∀ {e : TypeId} {size : Nat} {xs : List Value} {u : Value} (k : Nat), wx.ownsRow 0 e size u (n + 1) xs → (MG k ∨ N ≤ k) → u.ownBlock = some k → Grew MG w wx k := fun k ho h hu => by
    rcases h with h | h
    · exact .of h
    · obtain ⟨cs, hc⟩ := own_blk ho hu
      exact .inr ⟨by omega, hc.lt⟩
  refine ⟨n, es ++ [⟨(r, nn), L, 0⟩], ⟨(r, nn), L, 0⟩, rfl, by rw [hn]; simp, by simp; omega, Nat.zero_le _, .inr ⟨fun e he => ?_, hn, ?_⟩, ⟨u1, u2, u3, vs ++ [lv], R.gb, ?_, ?_, ?_, .of hga, fun k hk => hown k A.own (A.new k hk) hk, fun k hk => hown k B.own (B.new k hk) hk, fun k hk => hown k C.own (C.new k hk) hk, by simp [hvl], fun i v e h1 h2 => ?_⟩, hf⟩
  · obtain ⟨i, hi⟩ := List.getElem?_of_mem he
    exact hno i e (by rw [hn]; exact (List.getElem?_eq_some_iff.1 hi).1) hi
  · rw [hn]; simp
  · have := A.own; rw [balcs_snoc]; simpa [hn] using this
  · have := B.own; simpa [hn] using this
  · have := C.own; rw [cntcs_snoc]; simpa [hn] using this
  · by_cases hi : i < es.length
    · rw [List.getElem?_append_left (by omega)] at h1
      rw [List.getElem?_append_left hi] at h2
      exact up _ _ (hvs i v e h1 h2)
    · have hl2 := (List.getElem?_eq_some_iff.1 h2).1
      have hi' : i = es.length := by simp at hl2; omega
      subst hi'
      rw [List.getElem?_append_right (by omega)] at h1
      rw [List.getElem?_append_right (by omega)] at h2
      simp [hvl] at h1 h2
      subst h1 h2
      exact up _ _ hL
theorem cntcs_set (es : List Ent) (p : Nat) (e : Ent) : cntcs (es.set p e) = (cntcs es).set p (.int .i64 (e.c : Nat)) := by simp [cntcs, List.map_set]
theorem balcs_set : ∀ {es : List Ent} {p : Nat} {e0 e' : Ent}, es[p]? = some e0 → e'.b = e0.b → balcs (es.set p e') = balcs es
  | [], _, _, _, h, _ => by simp at h
  | a :: es, 0, e0, e', h, hb => by
    simp at h
    subst h
    simp [balcs, hb]
  | a :: es, p + 1, e0, e', h, hb => by
    have h' : es[p]? = some e0 := by simpa using h
    have := balcs_set h' hb
    simp only [balcs, List.set_cons_succ, List.flatMap_cons] at this ⊢
    rw [this]
/-- Behind the counting. -/
theorem CountPost.of {M MG : Nat → Prop} {w wx W' W2 : World} {ga k3 p n1 : Nat} {es es1 : List Ent} {b : Bl} {L : List Cmd} {q1 q2 q3 : Value} {qs : List Value} {e0 : Ent} (hMG : ∀ k, MG k → M k) (hfx : Fr w.heap.size MG w wx) (he : es1[p]? = some e0) (hn1 : n1 = es1.length)
    (hbump : Bump es b L (es1.set p ⟨e0.b, e0.L, e0.c + 1⟩) p) (hga : Grew MG w wx ga) (g6 : ∀ k, q1.ownBlock = some k → Grew MG w wx k) (g7 : ∀ k, q2.ownBlock = some k → Grew MG w wx k) (g8 : ∀ k, q3.ownBlock = some k → Grew MG w wx k) (hk3 : Grew MG w wx k3)
    (g9 : qs.length = es1.length) (g10 : ∀ (i : Nat) (v : Value) (e : Ent), qs[i]? = some v → es1[i]? = some e → Lf (Grew M w wx) wx v e.L) (hB : Blk W' ga 42 #[q1, q2, q3]) (r1 : W'.ownsRow 0 23 2 q1 n1 (balcs es1)) (r2 : W'.ownsRow 0 46 1 q2 n1 qs)
    (r3 : W'.ownsRow 0 3 1 q3 n1 (cntcs (es1.set p ⟨e0.b, e0.L, e0.c + 1⟩))) (hf : Fr wx.heap.size (· = k3) wx W') (hsz : W'.heap.size = wx.heap.size) (hb : Below W'.heap.size W' W2) : CountPost M MG w ga es b L (.returned (.bool true)) W2 := by
  have hup : ∀ k, Grew MG w wx k → Grew M w wx k := fun k h => by
    rcases h with h | h
    · exact .inl (hMG k h)
    · exact .inr h
  have hs1 := hf.size
  have hs2 := hb.size
  have hA : AgAt (Grew M w wx) (Grew MG w wx) W' ga (es1.set p ⟨e0.b, e0.L, e0.c + 1⟩) := by
    refine ⟨q1, q2, q3, qs, hB, by rw [balcs_set (e' := ⟨e0.b, e0.L, e0.c + 1⟩) he rfl, List.length_set, ← hn1]; exact r1, by rw [List.length_set, ← hn1]; exact r2, by rw [List.length_set, ← hn1]; exact r3, hga, g6, g7, g8, by rw [List.length_set]; exact g9, fun i v e h1 h2 => ?_⟩
    have h3 : ∃ e', es1[i]? = some e' ∧ e'.L = e.L := by
      by_cases hip : p = i
      · subst hip
        rw [List.getElem?_set_self (List.getElem?_eq_some_iff.1 he).1] at h2
        cases h2
        exact ⟨e0, he, rfl⟩
      · rw [List.getElem?_set_ne hip] at h2
        exact ⟨e, h2, rfl⟩
    obtain ⟨e', h4, h5⟩ := h3
    rw [← h5]
    exact (g10 i v e' h1 h4).fr hf (Nat.le_refl _) (fun k hk => by rw [hk]; exact hup k3 hk3)
  have gr : ∀ (X : Nat → Prop) m, Grew X w W2 m → Grew X w wx m ∨ wx.heap.size ≤ m := fun X m h => by
    rcases h with h | ⟨h1, h2⟩
    · exact .inl (.inl h)
    · by_cases hm : m < wx.heap.size
      · exact .inl (.inr ⟨h1, hm⟩)
      · exact .inr (by omega)
  have hA2 := (hA.fr (Fr.of_below hb (fun _ => False)) (Nat.le_refl _) (fun _ h => h.elim) (fun _ h => h.elim))
  refine ⟨rfl, _, p, hbump, ?_, ?_⟩
  · obtain ⟨t1, t2, t3, ts, k1, k2, k3', k4, k5, k6, k7, k8, k9, k10⟩ := hA
    refine ((AgAt.grow (M' := Grew M w W2) (MG' := Grew MG w W2) ⟨t1, t2, t3, ts, k1, k2, k3', k4, k5, k6, k7, k8, k9, k10⟩ (fun m hm => ?_) (fun k h => ?_))).fr (Fr.of_below hb (fun _ => False)) (Nat.le_refl _) (fun _ h => h.elim) (fun _ h => h.elim)
    · rw [hsz]; exact gr M m hm
    · rcases h with h | h
      · exact .inl h
      · exact .inr ⟨h.1, by omega⟩
  · exact (hfx.step hf hfx.size (fun k hk h => by
      rw [h]
      rw [h] at hk
      rcases hk3 with h3 | h3
      · exact h3
      · omega)).trans (Fr.of_below (hb.mono (by have := hfx.size; omega)) _)

set_option maxRecDepth 100000 in
set_option maxHeartbeats 4000000 in
theorem count_any (w : World) (M MG : Nat → Prop) (ga : Nat) (es : List Ent) (r nn : Int) (L : List Cmd) (lv : Value) (half : Nat) (hA : AgAt M MG w ga es) (hL : Lf M w lv L) (hlen : es.length ≤ 1000) (hc : ∀ e ∈ es, e.c ≤ 1000) (hh : half ≤ 1000)
    (hMG : ∀ k, MG k → M k) (hMlt : ∀ k, M k → k < w.heap.size) (hag : Agreed half es (r, nn) L) :
    Calls Tryd.prog 84 #[.pointer (some ⟨ga, 0, none⟩), .agg #[.int .i64 r, .int .i64 nn], lv, .int .i64 (half : Nat)] w (CountPost M MG w ga es (r, nn) L) := by
  obtain ⟨v1, v2, v3, vs, hgb, ho1, ho2, ho3, hga, hk1, hk2, hk3, hvl, hvs⟩ := hA
  obtain ⟨n, hn⟩ : ∃ n, n = es.length := ⟨_, rfl⟩
  rw [← hn] at ho1 ho2 ho3 hlen
  obtain ⟨A1, p1, rfl, hl1, hm1⟩ := row_form ho1
  have hgl := hgb.lt
  have HN := Lib.hid hn
  clear hn
  have hm1' : p1 ≤ 9223372036854775807 := by simp only [maxLen] at hm1; omega
  go_enter Tryd.func84, Tryd.ntmps84
  go_upto_region 2 with (fail)
  refine wp_letter (fun W1 => Below w.heap.size w W1 ∧ Blk W1 w.heap.size 23 #[.int .i64 r, .int .i64 nn]) ⟨(Below.refl _ _).alloc (Nat.le_refl _) _, Blk.new w 23 _⟩ ?_
  rintro W1 ⟨hb1, hX1⟩
  obtain ⟨x, hx⟩ : ∃ x, x = w.heap.size := ⟨_, rfl⟩
  rw [← hx] at hX1 ⊢
  have HX := Lib.hid hx
  clear hx
  have hgb1 := hgb.below hb1 hgl
  have cB := hgb1.cell
  have hX1l := hX1.lt
  go_wp2_with (fail)
  go_loopw [9, 19] (fun at_ i wr => ∃ (k : Nat) (z : Int), k ≤ n ∧ at_ = .int .i64 z ∧ i = .int .i64 k ∧ Found es (r, nn) k z ∧ Below W1.heap.size W1 wr) (fun _ i _ => n - (intOf i).toNat)
  case atStart => exact ⟨0, -1, Nat.zero_le _, rfl, rfl, Found.start _ _, Below.refl _ _⟩
  case round =>
    obtain ⟨k, z, hk, rfl, rfl, hf, hbr⟩ := hrel
    by_cases hlt : k < n
    · have hk' : k < es.length := by rw [← HN.out]; exact hlt
      obtain ⟨e, he⟩ : ∃ e, es[k]? = some e := ⟨_, List.getElem?_eq_getElem hk'⟩
      have hbw : Below w.heap.size w wr := hb1.trans (hbr.mono hb1.size)
      obtain ⟨g, o, rfl, hrg⟩ := row2_range (S := fun _ => False) ho1 he hbw (Nat.le_refl _)
      have hXr := hX1.below hbr hX1l
      obtain ⟨⟨br, bn⟩, eL, ec⟩ := e
      simp only [balc] at hrg
      have hbal := bal_info
      go_upto_region 5 with (first
        | ((with_reducible refine law_load 23 (.tmp 22) g (o + k * 2) [.int .i64 br, .int .i64 bn] ?_ hrg Tryd.underlying23 ?_ ?_ ?_); rfl; rfl; exact bal_info)
        | ((with_reducible refine law_store_fresh 23 (.tmp 11) (.tmp 23) wr 23 _ #[.int .i64 br, .int .i64 bn] ?_ ?_ rfl ?_ ?_ ?_ ?_); rfl; rfl; exact bal_info; rfl; rfl)
        | fail)
      refine wp_letter (fun W3 => Below W1.heap.size W1 W3 ∧ Blk W3 wr.heap.size 23 #[.int .i64 br, .int .i64 bn] ∧ Blk W3 x 23 #[.int .i64 r, .int .i64 nn])
        ⟨hbr.alloc hbr.size _, Blk.new _ _ _, hXr.alloc _⟩ ?_
      rintro W3 ⟨hb3, hY3, hX3⟩
      obtain ⟨y, hy⟩ : ∃ y, y = wr.heap.size := ⟨_, rfl⟩
      rw [← hy] at hY3 ⊢
      clear hy
      have hrX : W3.rangeAt x 0 [.int .i64 r, .int .i64 nn] := Blk.range hX3
      have hrY : W3.rangeAt y 0 [.int .i64 br, .int .i64 bn] := Blk.range hY3
      by_cases hq : (br, bn) = (r, nn)
      · obtain ⟨rfl, rfl⟩ : br = r ∧ bn = nn := by simpa using hq
        have heq := eq23_yes br bn
        go_wp2_with (first
          | ((with_reducible refine law_load 23 (.tmp 11) y 0 [.int .i64 br, .int .i64 bn] ?_ hrY Tryd.underlying23 ?_ ?_ ?_); rfl; rfl; exact bal_info)
          | ((with_reducible refine law_load 23 (.tmp 5) x 0 [.int .i64 br, .int .i64 bn] ?_ hrX Tryd.underlying23 ?_ ?_ ?_); rfl; rfl; exact bal_info)
          | fail)
        go_roundw
        case rel => exact ⟨k + 1, _, by omega, rfl, by go_num, Found.yes he rfl, hb3⟩
        case measure => simp [intOf]; omega
      · have heq := eq23_no hq
        go_wp2_with (first
          | ((with_reducible refine law_load 23 (.tmp 11) y 0 [.int .i64 br, .int .i64 bn] ?_ hrY Tryd.underlying23 ?_ ?_ ?_); rfl; rfl; exact bal_info)
          | ((with_reducible refine law_load 23 (.tmp 5) x 0 [.int .i64 r, .int .i64 nn] ?_ hrX Tryd.underlying23 ?_ ?_ ?_); rfl; rfl; exact bal_info)
          | fail)
        go_roundw
        case rel => exact ⟨k + 1, _, by omega, rfl, by go_num, hf.no he hq, hb3⟩
        case measure => simp [intOf]; omega
    · obtain rfl : n = k := by omega
      have hbw : Below w.heap.size w wr := hb1.trans (hbr.mono hb1.size)
      have hXr := hX1.below hbr hX1l
      have hgr := hgb.below hbw hgl
      have hL' := hL
      obtain ⟨lo, hi, hLA, hLhi, hLM⟩ := hL'
      obtain ⟨AL, cL, rfl, _⟩ := hLA.form
      obtain ⟨nL, hnL⟩ : ∃ nL, nL = L.length := ⟨_, rfl⟩
      rw [← hnL] at hL ⊢
      clear hLA hnL
      go_upto_if 30 with (fail)
      go_cut [9] (fun at_ wx => ∃ W0, W0 = wx ∧ CntMid M MG w ga es (r, nn) L at_ W0)
      case first =>
        rcases hf with ⟨rfl, hno⟩ | ⟨p, e, rfl, hp, he, heb⟩
        · go_upto_region 9 with (fail)
          obtain ⟨N, hN⟩ : ∃ N, N = wr.heap.size := ⟨_, rfl⟩
          have hxN : ¬ MG x := fun h => by have := hMlt x (hMG x h); rw [HX.out] at this; omega
          obtain ⟨S, hS⟩ : ∃ S : World → Prop, S = fun w' => Blk w' ga 42 #[.slice A1 n p1, v2, v3] ∧ Blk w' x 23 #[.int .i64 r, .int .i64 nn] := ⟨_, rfl⟩
          have HS := Lib.hid (show (∀ w', S w' → w'.cell? ⟨ga, 0, none⟩ = some (.slice A1 n p1)) ∧ (∀ w', S w' → w'.cell? ⟨ga, 1, none⟩ = some v2) ∧ (∀ w', S w' → w'.cell? ⟨ga, 2, none⟩ = some v3) ∧ (∀ w', S w' → w'.rangeAt x 0 [.int .i64 r, .int .i64 nn]) ∧ (∀ w', Blk w' ga 42 #[.slice A1 n p1, v2, v3] → Blk w' x 23 #[.int .i64 r, .int .i64 nn] → S w') from by
            subst hS; exact ⟨fun w' h => h.1.cell 0, fun w' h => h.1.cell 1, fun w' h => h.1.cell 2, fun w' h => Blk.range h.2, fun w' h1 h2 => ⟨h1, h2⟩⟩)
          clear hS
          have H1 := Lib.hid (show Tryd.prog.underlying 38 = some (.slice 23) ∧ (InfoOf Tryd.prog 23 2 16 ∧ [Value.int .i64 r, .int .i64 nn].length = 2) ∧ InfoOf Tryd.prog 23 2 16 ∧ [Value.int .i64 r, .int .i64 nn].length = 2 ∧ (∀ u ∈ [Value.int .i64 r, .int .i64 nn], u.oneCell' = true) ∧ n + 1 ≤ maxLen ∧ (n + 1) * 16 ≤ 140737488355328 from
            ⟨Tryd.underlying38, ⟨inf23, rfl⟩, inf23, rfl, by simp [Value.oneCell'], by simp [maxLen]; omega, by omega⟩)
          have H2 := Lib.hid (show Tryd.prog.underlying 39 = some (.slice 46) ∧ (InfoOf Tryd.prog 46 1 24 ∧ [Value.slice AL nL cL].length = 1) ∧ InfoOf Tryd.prog 46 1 24 ∧ [Value.slice AL nL cL].length = 1 ∧ (∀ u ∈ [Value.slice AL nL cL], u.oneCell' = true) ∧ n + 1 ≤ maxLen ∧ (n + 1) * 24 ≤ 140737488355328 from
            ⟨Tryd.underlying39, ⟨inf46, rfl⟩, inf46, rfl, by simp [Value.oneCell'], by simp [maxLen]; omega, by omega⟩)
          have H3 := Lib.hid (show Tryd.prog.underlying 40 = some (.slice 3) ∧ (InfoOf Tryd.prog 3 1 8 ∧ [Value.int .i64 0].length = 1) ∧ InfoOf Tryd.prog 3 1 8 ∧ [Value.int .i64 0].length = 1 ∧ (∀ u ∈ [Value.int .i64 0], u.oneCell' = true) ∧ n + 1 ≤ maxLen ∧ (n + 1) * 8 ≤ 140737488355328 from
            ⟨Tryd.underlying40, ⟨inf3, rfl⟩, inf3, rfl, by simp [Value.oneCell'], by simp [maxLen]; omega, by omega⟩)
          have HI := Lib.hid (And.intro sz38 (And.intro sz39 sz40))
          have hSd : S wr.drew := HS.out.2.2.2.2 _ hgr.drew hXr.drew
          have R : R9 N MG wr ga x (.slice A1 n p1) v2 v3 (r, nn) wr.drew := ⟨hN ▸ (Fr.refl _ MG wr).drew, by rw [hN]; exact Nat.le_refl _, hgr.drew, hXr.drew, hga, hxN⟩
          have A : L0 MG 23 2 n (.slice A1 n p1) (balcs es) wr.drew := ⟨(ownsRow_frS ho1 (Fr.of_below hbw (fun _ => False)) (Nat.le_refl _) (fun _ _ h => h)).drew, hk1⟩
          have B : L0 MG 46 1 n v2 vs wr.drew := ⟨(ownsRow_frS ho2 (Fr.of_below hbw (fun _ => False)) (Nat.le_refl _) (fun _ _ h => h)).drew, hk2⟩
          have C : L0 MG 3 1 n v3 (cntcs es) wr.drew := ⟨(ownsRow_frS ho3 (Fr.of_below hbw (fun _ => False)) (Nat.le_refl _) (fun _ _ h => h)).drew, hk3⟩
          have HEND := Lib.hid (show ∀ (u1 u2 u3 : Value) (wx : World), R9 N MG wr ga x u1 u2 u3 (r, nn) wx → L2 N MG 23 2 n (balcs es) [.int .i64 r, .int .i64 nn] u1 wx → L2 N MG 46 1 n vs [.slice AL nL cL] u2 wx → L2 N MG 3 1 n (cntcs es) [.int .i64 0] u3 wx → CntMid M MG w ga es (r, nn) L (.int .i64 (n : Nat)) wx from
            fun u1 u2 u3 wx R A B C => CntMid.new hbw hN hMG hga HN.out hlen hno hvl hvs hL R A B C)
          refine wp_region_until 25 S (by kernel_rfl) ?_
          refine wpAnyU_letter (fun W' => S W' ∧ R9 N MG wr ga x (.slice A1 n p1) v2 v3 (r, nn) W' ∧ L0 MG 23 2 n (.slice A1 n p1) (balcs es) W' ∧ L0 MG 46 1 n v2 vs W' ∧ L0 MG 3 1 n v3 (cntcs es) W') ⟨hSd, R, A, B, C⟩ ?_
          clear hSd R A B C hno hvs hL hLM hgr hXr hbw hbr hb1 hX1 hgb1 cB ho1 ho2 ho3 hgb hag hc
          rintro w0 ⟨hSd, R, A, B, C⟩
          refine wpAnyU_take (i := 0) (v := .pointer (some ⟨ga, 0, none⟩)) rfl (by kernel_rfl) (by kernel_rfl) (by kernel_rfl) (by decide) (fun _ _ _ h => h) (Or.inl ⟨by kernel_rfl, fun w' _ => ?_⟩) (fun _ => hSd) ?_
          · go_simp
          simp only [List.getElem_toArray, List.getElem_cons_succ, List.getElem_cons_zero, Act.put, List.setIfInBounds_toArray, List.set_cons_zero, List.set_cons_succ]
          refine wpAnyU_take (i := 1) (v := .pointer (some ⟨ga, 0, none⟩)) rfl (by kernel_rfl) (by kernel_rfl) (by kernel_rfl) (by decide) (fun _ _ _ h => h) (Or.inl ⟨by kernel_rfl, fun w' _ => ?_⟩) (fun _ => hSd) ?_
          · go_simp
          simp only [List.getElem_toArray, List.getElem_cons_succ, List.getElem_cons_zero, Act.put, List.setIfInBounds_toArray, List.set_cons_zero, List.set_cons_succ]
          refine wpAnyU_take (i := 2) (v := .pointer (some ⟨ga, 0, none⟩)) rfl (by kernel_rfl) (by kernel_rfl) (by kernel_rfl) (by decide) (fun _ _ _ h => h) (Or.inl ⟨by kernel_rfl, fun w' _ => ?_⟩) (fun _ => hSd) ?_
          · go_simp
          simp only [List.getElem_toArray, List.getElem_cons_succ, List.getElem_cons_zero, Act.put, List.setIfInBounds_toArray, List.set_cons_zero, List.set_cons_succ]
          refine wpAnyU_take (i := 3) (v := .pointer (some ⟨ga, 0, none⟩)) rfl (by kernel_rfl) (by kernel_rfl) (by kernel_rfl) (by decide) (fun _ _ _ h => h) (Or.inl ⟨by kernel_rfl, fun w' _ => ?_⟩) (fun _ => hSd) ?_
          · go_simp
          simp only [List.getElem_toArray, List.getElem_cons_succ, List.getElem_cons_zero, Act.put, List.setIfInBounds_toArray, List.set_cons_zero, List.set_cons_succ]
          refine wpAnyU_take (i := 4) (v := .pointer (some ⟨ga, 0, none⟩)) rfl (by kernel_rfl) (by kernel_rfl) (by kernel_rfl) (by decide) (fun _ _ _ h => h) (Or.inl ⟨by kernel_rfl, fun w' _ => ?_⟩) (fun _ => hSd) ?_
          · go_simp
          simp only [List.getElem_toArray, List.getElem_cons_succ, List.getElem_cons_zero, Act.put, List.setIfInBounds_toArray, List.set_cons_zero, List.set_cons_succ]
          refine wpAnyU_take (i := 5) (v := .pointer (some ⟨ga, 0, none⟩)) rfl (by kernel_rfl) (by kernel_rfl) (by kernel_rfl) (by decide) (fun _ _ _ h => h) (Or.inl ⟨by kernel_rfl, fun w' _ => ?_⟩) (fun _ => hSd) ?_
          · go_simp
          simp only [List.getElem_toArray, List.getElem_cons_succ, List.getElem_cons_zero, Act.put, List.setIfInBounds_toArray, List.set_cons_zero, List.set_cons_succ]
          refine wpAnyU_load (i := 6) (v := .slice A1 n p1) rfl (by kernel_rfl) (by kernel_rfl) (by kernel_rfl) (by decide) (by kernel_rfl) (by kernel_rfl) (fun _ _ _ h => h) (Or.inl ⟨by kernel_rfl, fun w' hSw => ?_⟩) hSd ?_
          · (have hcv := HS.out.1 w' hSw; go_simp)
          simp only [List.getElem_toArray, List.getElem_cons_succ, List.getElem_cons_zero, Act.put, List.setIfInBounds_toArray, List.set_cons_zero, List.set_cons_succ]
          refine wpAnyU_load (i := 7) (v := .agg #[.int .i64 r, .int .i64 nn]) rfl (by kernel_rfl) (by kernel_rfl) (by kernel_rfl) (by decide) (by kernel_rfl) (by kernel_rfl) (fun _ _ _ h => h) ?_ hSd ?_
          · refine yieldsIf_load_mid ?_ 23 (.tmp 5) ?_ x 0 ?_ [.int .i64 r, .int .i64 nn] _ HS.out.2.2.2.1 Tryd.underlying23 ?_ bal_info
            · kernel_rfl
            · rfl
            · kernel_rfl
            · rfl
          simp only [List.getElem_toArray, List.getElem_cons_succ, List.getElem_cons_zero, Act.put, List.setIfInBounds_toArray, List.set_cons_zero, List.set_cons_succ]
          refine wpAnyU_take (i := 10) (v := .pointer (some ⟨ga, 0, none⟩)) rfl (by kernel_rfl) (by kernel_rfl) (by kernel_rfl) (by decide) (fun _ _ _ h => h) (Or.inl ⟨by kernel_rfl, fun w' _ => ?_⟩) (fun _ => hSd) ?_
          · go_simp
          simp only [List.getElem_toArray, List.getElem_cons_succ, List.getElem_cons_zero, Act.put, List.setIfInBounds_toArray, List.set_cons_zero, List.set_cons_succ]
          refine wpAnyU_take (i := 11) (v := .pointer (some ⟨ga, 0, none⟩)) rfl (by kernel_rfl) (by kernel_rfl) (by kernel_rfl) (by decide) (fun _ _ _ h => h) (Or.inl ⟨by kernel_rfl, fun w' _ => ?_⟩) (fun _ => hSd) ?_
          · go_simp
          simp only [List.getElem_toArray, List.getElem_cons_succ, List.getElem_cons_zero, Act.put, List.setIfInBounds_toArray, List.set_cons_zero, List.set_cons_succ]
          refine wpAnyU_take (i := 12) (v := .pointer (some ⟨ga, 1, none⟩)) rfl (by kernel_rfl) (by kernel_rfl) (by kernel_rfl) (by decide) (fun _ _ _ h => h) (Or.inl ⟨by kernel_rfl, fun w' _ => ?_⟩) (fun _ => hSd) ?_
          · go_simp
          simp only [List.getElem_toArray, List.getElem_cons_succ, List.getElem_cons_zero, Act.put, List.setIfInBounds_toArray, List.set_cons_zero, List.set_cons_succ]
          refine wpAnyU_load (i := 13) (v := v2) rfl (by kernel_rfl) (by kernel_rfl) (by kernel_rfl) (by decide) (by kernel_rfl) (by kernel_rfl) (fun _ _ _ h => h) (Or.inl ⟨by kernel_rfl, fun w' hSw => ?_⟩) hSd ?_
          · (have hcv := HS.out.2.1 w' hSw; go_simp)
          simp only [List.getElem_toArray, List.getElem_cons_succ, List.getElem_cons_zero, Act.put, List.setIfInBounds_toArray, List.set_cons_zero, List.set_cons_succ]
          refine wpAnyU_take (i := 14) (v := .slice AL nL cL) rfl (by kernel_rfl) (by kernel_rfl) (by kernel_rfl) (by decide) (fun _ _ _ h => h) (Or.inl ⟨by kernel_rfl, fun w' _ => ?_⟩) (fun _ => hSd) ?_
          · go_simp
          simp only [List.getElem_toArray, List.getElem_cons_succ, List.getElem_cons_zero, Act.put, List.setIfInBounds_toArray, List.set_cons_zero, List.set_cons_succ]
          refine wpAnyU_take (i := 17) (v := .pointer (some ⟨ga, 0, none⟩)) rfl (by kernel_rfl) (by kernel_rfl) (by kernel_rfl) (by decide) (fun _ _ _ h => h) (Or.inl ⟨by kernel_rfl, fun w' _ => ?_⟩) (fun _ => hSd) ?_
          · go_simp
          simp only [List.getElem_toArray, List.getElem_cons_succ, List.getElem_cons_zero, Act.put, List.setIfInBounds_toArray, List.set_cons_zero, List.set_cons_succ]
          refine wpAnyU_take (i := 18) (v := .pointer (some ⟨ga, 0, none⟩)) rfl (by kernel_rfl) (by kernel_rfl) (by kernel_rfl) (by decide) (fun _ _ _ h => h) (Or.inl ⟨by kernel_rfl, fun w' _ => ?_⟩) (fun _ => hSd) ?_
          · go_simp
          simp only [List.getElem_toArray, List.getElem_cons_succ, List.getElem_cons_zero, Act.put, List.setIfInBounds_toArray, List.set_cons_zero, List.set_cons_succ]
          refine wpAnyU_take (i := 19) (v := .pointer (some ⟨ga, 2, none⟩)) rfl (by kernel_rfl) (by kernel_rfl) (by kernel_rfl) (by decide) (fun _ _ _ h => h) (Or.inl ⟨by kernel_rfl, fun w' _ => ?_⟩) (fun _ => hSd) ?_
          · go_simp
          simp only [List.getElem_toArray, List.getElem_cons_succ, List.getElem_cons_zero, Act.put, List.setIfInBounds_toArray, List.set_cons_zero, List.set_cons_succ]
          refine wpAnyU_load (i := 20) (v := v3) rfl (by kernel_rfl) (by kernel_rfl) (by kernel_rfl) (by decide) (by kernel_rfl) (by kernel_rfl) (fun _ _ _ h => h) (Or.inl ⟨by kernel_rfl, fun w' hSw => ?_⟩) hSd ?_
          · (have hcv := HS.out.2.2.1 w' hSw; go_simp)
          simp only [List.getElem_toArray, List.getElem_cons_succ, List.getElem_cons_zero, Act.put, List.setIfInBounds_toArray, List.set_cons_zero, List.set_cons_succ]
          refine wpAnyU_ready (rs := [8, 15, 21]) (by kernel_rfl) (by simp) ?_
          refine AllReadyU.cons rfl (fun K hK => ?_) ?_
          · rw [if_pos (by kernel_rfl)]
            refine A.buildK R [.int .i64 r, .int .i64 nn] 38 (.tmp 38) rfl H1.out.1 rfl H1.out.2.1 ?_
            intro u1 w1 k R A
            refine Shut.out hK _ _ (fun _ => HS.out.2.2.2.2 _ R.gb R.xb) ?_
            replace B := B.al k
            replace C := C.al k
            clear hK K k
            simp only [List.getElem_toArray, List.getElem_cons_succ, List.getElem_cons_zero, Act.put, List.setIfInBounds_toArray, List.set_cons_zero, List.set_cons_succ]
            refine wpAnyU_ready (rs := [9, 15, 21]) (by kernel_rfl) (by simp) ?_
            refine AllReadyU.cons rfl (fun K hK => ?_) ?_
            · rw [if_pos (by kernel_rfl)]
              refine A.appK R (.tmp 37) (.tmp 39) 38 rfl H1.out.1 ?_ ?_ (by decide) H1.out.2.2 ?_
              · rfl
              · rfl
              intro u1 w2 k R A
              refine Shut.out hK _ _ (fun _ => HS.out.2.2.2.2 _ R.gb R.xb) ?_
              replace B := B.gr k (by decide)
              replace C := C.gr k (by decide)
              clear hK K k
              simp only [List.getElem_toArray, List.getElem_cons_succ, List.getElem_cons_zero, Act.put, List.setIfInBounds_toArray, List.set_cons_zero, List.set_cons_succ]
              refine wpAnyU_ready (rs := [15, 21]) (by kernel_rfl) (by simp) ?_
              refine AllReadyU.cons rfl (fun K hK => ?_) ?_
              · rw [if_pos (by kernel_rfl)]
                refine B.buildK R [.slice AL nL cL] 39 (.tmp 45) rfl H2.out.1 rfl H2.out.2.1 ?_
                intro u2 w3 k R B
                refine Shut.out hK _ _ (fun _ => HS.out.2.2.2.2 _ R.gb R.xb) ?_
                replace A := A.al k
                replace C := C.al k
                clear hK K k
                simp only [List.getElem_toArray, List.getElem_cons_succ, List.getElem_cons_zero, Act.put, List.setIfInBounds_toArray, List.set_cons_zero, List.set_cons_succ]
                refine wpAnyU_ready (rs := [16, 21]) (by kernel_rfl) (by simp) ?_
                refine AllReadyU.cons rfl (fun K hK => ?_) ?_
                · rw [if_pos (by kernel_rfl)]
                  refine B.appK R (.tmp 44) (.tmp 46) 39 rfl H2.out.1 ?_ ?_ (by decide) H2.out.2.2 ?_
                  · rfl
                  · rfl
                  intro u2 w4 k R B
                  refine Shut.out hK _ _ (fun _ => HS.out.2.2.2.2 _ R.gb R.xb) ?_
                  replace A := A.gr k (by decide)
                  replace C := C.gr k (by decide)
                  clear hK K k
                  simp only [List.getElem_toArray, List.getElem_cons_succ, List.getElem_cons_zero, Act.put, List.setIfInBounds_toArray, List.set_cons_zero, List.set_cons_succ]
                  refine wpAnyU_ready (rs := [21]) (by kernel_rfl) (by simp) ?_
                  refine AllReadyU.cons rfl (fun K hK => ?_) AllReadyU.nil
                  rw [if_pos (by kernel_rfl)]
                  refine C.buildK R [.int .i64 0] 40 (.const (.int .i64 0)) rfl H3.out.1 rfl H3.out.2.1 ?_
                  intro u3 w5 k R C
                  refine Shut.out hK _ _ (fun _ => HS.out.2.2.2.2 _ R.gb R.xb) ?_
                  replace A := A.al k
                  replace B := B.al k
                  clear hK K k
                  simp only [List.getElem_toArray, List.getElem_cons_succ, List.getElem_cons_zero, Act.put, List.setIfInBounds_toArray, List.set_cons_zero, List.set_cons_succ]
                  refine wpAnyU_ready (rs := [22]) (by kernel_rfl) (by simp) ?_
                  refine AllReadyU.cons rfl (fun K hK => ?_) AllReadyU.nil
                  rw [if_pos (by kernel_rfl)]
                  refine C.appK R (.tmp 51) (.tmp 52) 40 rfl H3.out.1 ?_ ?_ (by decide) H3.out.2.2 ?_
                  · rfl
                  · rfl
                  intro u3 w6 k R C
                  refine Shut.out hK _ _ (fun _ => HS.out.2.2.2.2 _ R.gb R.xb) ?_
                  replace A := A.gr k (by decide)
                  replace B := B.gr k (by decide)
                  clear hK K k
                  simp only [List.getElem_toArray, List.getElem_cons_succ, List.getElem_cons_zero, Act.put, List.setIfInBounds_toArray, List.set_cons_zero, List.set_cons_succ]
                  refine wpAnyU_take (i := 23) (v := .pointer (some ⟨ga, 0, none⟩)) rfl (by kernel_rfl) (by kernel_rfl) (by kernel_rfl) (by decide) (fun _ _ _ h => h) (Or.inl ⟨by kernel_rfl, fun w' _ => ?_⟩) (fun _ => HS.out.2.2.2.2 _ R.gb R.xb) ?_
                  · go_simp
                  simp only [List.getElem_toArray, List.getElem_cons_succ, List.getElem_cons_zero, Act.put, List.setIfInBounds_toArray, List.set_cons_zero, List.set_cons_succ]
                  refine wpAnyU_take (i := 24) (v := .pointer (some ⟨ga, 0, none⟩)) rfl (by kernel_rfl) (by kernel_rfl) (by kernel_rfl) (by decide) (fun _ _ _ h => h) (Or.inl ⟨by kernel_rfl, fun w' _ => ?_⟩) (fun _ => HS.out.2.2.2.2 _ R.gb R.xb) ?_
                  · go_simp
                  simp only [List.getElem_toArray, List.getElem_cons_succ, List.getElem_cons_zero, Act.put, List.setIfInBounds_toArray, List.set_cons_zero, List.set_cons_succ]
                  refine wpAnyU_ready (rs := [25]) (by kernel_rfl) (by simp) ?_
                  refine AllReadyU.cons rfl (fun K hK => ?_) AllReadyU.nil
                  rw [if_pos (by kernel_rfl)]
                  refine wp_store1 38 (.tmp 55) (.tmp 40) rfl ga 0 42 _ u1 rfl rfl R.gb (by simp) HI.out.1 A.one ?_
                  refine Shut.out hK _ _ (fun h => Bool.noConfusion (Eq.trans (Eq.symm (by kernel_rfl)) h : true = false)) ?_
                  replace A := A.far R (by decide) 0 u1
                  replace B := B.far R (by decide) 0 u1
                  replace C := C.far R (by decide) 0 u1
                  replace R := R.set0 u1
                  clear hK K
                  simp only [List.getElem_toArray, List.getElem_cons_succ, List.getElem_cons_zero, Act.put, List.setIfInBounds_toArray, List.set_cons_zero, List.set_cons_succ]
                  refine wpAnyU_take (i := 26) (v := .pointer (some ⟨ga, 0, none⟩)) rfl (by kernel_rfl) (by kernel_rfl) (by kernel_rfl) (by decide) (fun _ _ _ h => h) (Or.inl ⟨by kernel_rfl, fun w' _ => ?_⟩) (fun h => Bool.noConfusion (Eq.trans (Eq.symm (by kernel_rfl)) h : true = false)) ?_
                  · go_simp
                  simp only [List.getElem_toArray, List.getElem_cons_succ, List.getElem_cons_zero, Act.put, List.setIfInBounds_toArray, List.set_cons_zero, List.set_cons_succ]
                  refine wpAnyU_take (i := 27) (v := .pointer (some ⟨ga, 1, none⟩)) rfl (by kernel_rfl) (by kernel_rfl) (by kernel_rfl) (by decide) (fun _ _ _ h => h) (Or.inl ⟨by kernel_rfl, fun w' _ => ?_⟩) (fun h => Bool.noConfusion (Eq.trans (Eq.symm (by kernel_rfl)) h : true = false)) ?_
                  · go_simp
                  simp only [List.getElem_toArray, List.getElem_cons_succ, List.getElem_cons_zero, Act.put, List.setIfInBounds_toArray, List.set_cons_zero, List.set_cons_succ]
                  refine wpAnyU_ready (rs := [28]) (by kernel_rfl) (by simp) ?_
                  refine AllReadyU.cons rfl (fun K hK => ?_) AllReadyU.nil
                  rw [if_pos (by kernel_rfl)]
                  refine wp_store1 39 (.tmp 57) (.tmp 47) rfl ga 1 42 _ u2 rfl rfl R.gb (by simp) HI.out.2.1 B.one ?_
                  refine Shut.out hK _ _ (fun h => Bool.noConfusion (Eq.trans (Eq.symm (by kernel_rfl)) h : true = false)) ?_
                  replace A := A.far R (by decide) 1 u2
                  replace B := B.far R (by decide) 1 u2
                  replace C := C.far R (by decide) 1 u2
                  replace R := R.set1 u2
                  clear hK K
                  simp only [List.getElem_toArray, List.getElem_cons_succ, List.getElem_cons_zero, Act.put, List.setIfInBounds_toArray, List.set_cons_zero, List.set_cons_succ]
                  refine wpAnyU_take (i := 29) (v := .pointer (some ⟨ga, 0, none⟩)) rfl (by kernel_rfl) (by kernel_rfl) (by kernel_rfl) (by decide) (fun _ _ _ h => h) (Or.inl ⟨by kernel_rfl, fun w' _ => ?_⟩) (fun h => Bool.noConfusion (Eq.trans (Eq.symm (by kernel_rfl)) h : true = false)) ?_
                  · go_simp
                  simp only [List.getElem_toArray, List.getElem_cons_succ, List.getElem_cons_zero, Act.put, List.setIfInBounds_toArray, List.set_cons_zero, List.set_cons_succ]
                  refine wpAnyU_take (i := 30) (v := .pointer (some ⟨ga, 2, none⟩)) rfl (by kernel_rfl) (by kernel_rfl) (by kernel_rfl) (by decide) (fun _ _ _ h => h) (Or.inl ⟨by kernel_rfl, fun w' _ => ?_⟩) (fun h => Bool.noConfusion (Eq.trans (Eq.symm (by kernel_rfl)) h : true = false)) ?_
                  · go_simp
                  simp only [List.getElem_toArray, List.getElem_cons_succ, List.getElem_cons_zero, Act.put, List.setIfInBounds_toArray, List.set_cons_zero, List.set_cons_succ]
                  refine wpAnyU_ready (rs := [31]) (by kernel_rfl) (by simp) ?_
                  refine AllReadyU.cons rfl (fun K hK => ?_) AllReadyU.nil
                  rw [if_pos (by kernel_rfl)]
                  refine wp_store1 40 (.tmp 59) (.tmp 53) rfl ga 2 42 _ u3 rfl rfl R.gb (by simp) HI.out.2.2 C.one ?_
                  refine Shut.out hK _ _ (fun h => Bool.noConfusion (Eq.trans (Eq.symm (by kernel_rfl)) h : true = false)) ?_
                  replace A := A.far R (by decide) 2 u3
                  replace B := B.far R (by decide) 2 u3
                  replace C := C.far R (by decide) 2 u3
                  replace R := R.set2 u3
                  clear hK K
                  simp only [List.getElem_toArray, List.getElem_cons_succ, List.getElem_cons_zero, Act.put, List.setIfInBounds_toArray, List.set_cons_zero, List.set_cons_succ]
                  refine wpAnyU_done (by kernel_rfl) ?_ _
                  have hE := HEND.out _ _ _ _ R A B C
                  obtain ⟨A', c', rfl, q1, q2⟩ := row_form A.own
                  have cF := R.gb.cell
                  clear R A B C HEND
                  go_wp2_with (fail)
                  go_meet
                  refine ⟨_, rfl, ?_⟩
                  simpa using hE
                refine AllReadyU.cons rfl (fun K hK => ?_) AllReadyU.nil
                rw [if_pos (by kernel_rfl)]
                refine C.buildK R [.int .i64 0] 40 (.const (.int .i64 0)) rfl H3.out.1 rfl H3.out.2.1 ?_
                intro u3 w7 k R C
                refine Shut.out hK _ _ (fun _ => HS.out.2.2.2.2 _ R.gb R.xb) ?_
                replace A := A.al k
                replace B := B.al k
                clear hK K k
                simp only [List.getElem_toArray, List.getElem_cons_succ, List.getElem_cons_zero, Act.put, List.setIfInBounds_toArray, List.set_cons_zero, List.set_cons_succ]
                refine wpAnyU_ready (rs := [16]) (by kernel_rfl) (by simp) ?_
                refine AllReadyU.cons rfl (fun K hK => ?_) AllReadyU.nil
                rw [if_pos (by kernel_rfl)]
                refine B.appK R (.tmp 44) (.tmp 46) 39 rfl H2.out.1 ?_ ?_ (by decide) H2.out.2.2 ?_
                · rfl
                · rfl
                intro u2 w8 k R B
                refine Shut.out hK _ _ (fun _ => HS.out.2.2.2.2 _ R.gb R.xb) ?_
                replace A := A.gr k (by decide)
                replace C := C.gr k (by decide)
                clear hK K k
                simp only [List.getElem_toArray, List.getElem_cons_succ, List.getElem_cons_zero, Act.put, List.setIfInBounds_toArray, List.set_cons_zero, List.set_cons_succ]
                refine wpAnyU_ready (rs := [22]) (by kernel_rfl) (by simp) ?_
                refine AllReadyU.cons rfl (fun K hK => ?_) AllReadyU.nil
                rw [if_pos (by kernel_rfl)]
                refine C.appK R (.tmp 51) (.tmp 52) 40 rfl H3.out.1 ?_ ?_ (by decide) H3.out.2.2 ?_
                · rfl
                · rfl
                intro u3 w9 k R C
                refine Shut.out hK _ _ (fun _ => HS.out.2.2.2.2 _ R.gb R.xb) ?_
                replace A := A.gr k (by decide)
                replace B := B.gr k (by decide)
                clear hK K k
                simp only [List.getElem_toArray, List.getElem_cons_succ, List.getElem_cons_zero, Act.put, List.setIfInBounds_toArray, List.set_cons_zero, List.set_cons_succ]
                refine wpAnyU_take (i := 23) (v := .pointer (some ⟨ga, 0, none⟩)) rfl (by kernel_rfl) (by kernel_rfl) (by kernel_rfl) (by decide) (fun _ _ _ h => h) (Or.inl ⟨by kernel_rfl, fun w' _ => ?_⟩) (fun _ => HS.out.2.2.2.2 _ R.gb R.xb) ?_
                · go_simp
                simp only [List.getElem_toArray, List.getElem_cons_succ, List.getElem_cons_zero, Act.put, List.setIfInBounds_toArray, List.set_cons_zero, List.set_cons_succ]
                refine wpAnyU_take (i := 24) (v := .pointer (some ⟨ga, 0, none⟩)) rfl (by kernel_rfl) (by kernel_rfl) (by kernel_rfl) (by decide) (fun _ _ _ h => h) (Or.inl ⟨by kernel_rfl, fun w' _ => ?_⟩) (fun _ => HS.out.2.2.2.2 _ R.gb R.xb) ?_
                · go_simp
                simp only [List.getElem_toArray, List.getElem_cons_succ, List.getElem_cons_zero, Act.put, List.setIfInBounds_toArray, List.set_cons_zero, List.set_cons_succ]
                refine wpAnyU_ready (rs := [25]) (by kernel_rfl) (by simp) ?_
                refine AllReadyU.cons rfl (fun K hK => ?_) AllReadyU.nil
                rw [if_pos (by kernel_rfl)]
                refine wp_store1 38 (.tmp 55) (.tmp 40) rfl ga 0 42 _ u1 rfl rfl R.gb (by simp) HI.out.1 A.one ?_
                refine Shut.out hK _ _ (fun h => Bool.noConfusion (Eq.trans (Eq.symm (by kernel_rfl)) h : true = false)) ?_
                replace A := A.far R (by decide) 0 u1
                replace B := B.far R (by decide) 0 u1
                replace C := C.far R (by decide) 0 u1
                replace R := R.set0 u1
                clear hK K
                simp only [List.getElem_toArray, List.getElem_cons_succ, List.getElem_cons_zero, Act.put, List.setIfInBounds_toArray, List.set_cons_zero, List.set_cons_succ]
                refine wpAnyU_take (i := 26) (v := .pointer (some ⟨ga, 0, none⟩)) rfl (by kernel_rfl) (by kernel_rfl) (by kernel_rfl) (by decide) (fun _ _ _ h => h) (Or.inl ⟨by kernel_rfl, fun w' _ => ?_⟩) (fun h => Bool.noConfusion (Eq.trans (Eq.symm (by kernel_rfl)) h : true = false)) ?_
                · go_simp
                simp only [List.getElem_toArray, List.getElem_cons_succ, List.getElem_cons_zero, Act.put, List.setIfInBounds_toArray, List.set_cons_zero, List.set_cons_succ]
                refine wpAnyU_take (i := 27) (v := .pointer (some ⟨ga, 1, none⟩)) rfl (by kernel_rfl) (by kernel_rfl) (by kernel_rfl) (by decide) (fun _ _ _ h => h) (Or.inl ⟨by kernel_rfl, fun w' _ => ?_⟩) (fun h => Bool.noConfusion (Eq.trans (Eq.symm (by kernel_rfl)) h : true = false)) ?_
                · go_simp
                simp only [List.getElem_toArray, List.getElem_cons_succ, List.getElem_cons_zero, Act.put, List.setIfInBounds_toArray, List.set_cons_zero, List.set_cons_succ]
                refine wpAnyU_ready (rs := [28]) (by kernel_rfl) (by simp) ?_
                refine AllReadyU.cons rfl (fun K hK => ?_) AllReadyU.nil
                rw [if_pos (by kernel_rfl)]
                refine wp_store1 39 (.tmp 57) (.tmp 47) rfl ga 1 42 _ u2 rfl rfl R.gb (by simp) HI.out.2.1 B.one ?_
                refine Shut.out hK _ _ (fun h => Bool.noConfusion (Eq.trans (Eq.symm (by kernel_rfl)) h : true = false)) ?_
                replace A := A.far R (by decide) 1 u2
                replace B := B.far R (by decide) 1 u2
                replace C := C.far R (by decide) 1 u2
                replace R := R.set1 u2
                clear hK K
                simp only [List.getElem_toArray, List.getElem_cons_succ, List.getElem_cons_zero, Act.put, List.setIfInBounds_toArray, List.set_cons_zero, List.set_cons_succ]
                refine wpAnyU_take (i := 29) (v := .pointer (some ⟨ga, 0, none⟩)) rfl (by kernel_rfl) (by kernel_rfl) (by kernel_rfl) (by decide) (fun _ _ _ h => h) (Or.inl ⟨by kernel_rfl, fun w' _ => ?_⟩) (fun h => Bool.noConfusion (Eq.trans (Eq.symm (by kernel_rfl)) h : true = false)) ?_
                · go_simp
                simp only [List.getElem_toArray, List.getElem_cons_succ, List.getElem_cons_zero, Act.put, List.setIfInBounds_toArray, List.set_cons_zero, List.set_cons_succ]
                refine wpAnyU_take (i := 30) (v := .pointer (some ⟨ga, 2, none⟩)) rfl (by kernel_rfl) (by kernel_rfl) (by kernel_rfl) (by decide) (fun _ _ _ h => h) (Or.inl ⟨by kernel_rfl, fun w' _ => ?_⟩) (fun h => Bool.noConfusion (Eq.trans (Eq.symm (by kernel_rfl)) h : true = false)) ?_
                · go_simp
                simp only [List.getElem_toArray, List.getElem_cons_succ, List.getElem_cons_zero, Act.put, List.setIfInBounds_toArray, List.set_cons_zero, List.set_cons_succ]
                refine wpAnyU_ready (rs := [31]) (by kernel_rfl) (by simp) ?_
                refine AllReadyU.cons rfl (fun K hK => ?_) AllReadyU.nil
                rw [if_pos (by kernel_rfl)]
                refine wp_store1 40 (.tmp 59) (.tmp 53) rfl ga 2 42 _ u3 rfl rfl R.gb (by simp) HI.out.2.2 C.one ?_
                refine Shut.out hK _ _ (fun h => Bool.noConfusion (Eq.trans (Eq.symm (by kernel_rfl)) h : true = false)) ?_
                replace A := A.far R (by decide) 2 u3
                replace B := B.far R (by decide) 2 u3
                replace C := C.far R (by decide) 2 u3
                replace R := R.set2 u3
                clear hK K
                simp only [List.getElem_toArray, List.getElem_cons_succ, List.getElem_cons_zero, Act.put, List.setIfInBounds_toArray, List.set_cons_zero, List.set_cons_succ]
                refine wpAnyU_done (by kernel_rfl) ?_ _
                have hE := HEND.out _ _ _ _ R A B C
                obtain ⟨A', c', rfl, q1, q2⟩ := row_form A.own
                have cF := R.gb.cell
                clear R A B C HEND
                go_wp2_with (fail)
                go_meet
                refine ⟨_, rfl, ?_⟩
                simpa using hE
              refine AllReadyU.cons rfl (fun K hK => ?_) AllReadyU.nil
              rw [if_pos (by kernel_rfl)]
              refine C.buildK R [.int .i64 0] 40 (.const (.int .i64 0)) rfl H3.out.1 rfl H3.out.2.1 ?_
              intro u3 w10 k R C
              refine Shut.out hK _ _ (fun _ => HS.out.2.2.2.2 _ R.gb R.xb) ?_
              replace A := A.al k
              replace B := B.al k
              clear hK K k
              simp only [List.getElem_toArray, List.getElem_cons_succ, List.getElem_cons_zero, Act.put, List.setIfInBounds_toArray, List.set_cons_zero, List.set_cons_succ]
              refine wpAnyU_ready (rs := [15]) (by kernel_rfl) (by simp) ?_
              refine AllReadyU.cons rfl (fun K hK => ?_) AllReadyU.nil
              rw [if_pos (by kernel_rfl)]
              refine B.buildK R [.slice AL nL cL] 39 (.tmp 45) rfl H2.out.1 rfl H2.out.2.1 ?_
              intro u2 w11 k R B
              refine Shut.out hK _ _ (fun _ => HS.out.2.2.2.2 _ R.gb R.xb) ?_
              replace A := A.al k
              replace C := C.al k
              clear hK K k
              simp only [List.getElem_toArray, List.getElem_cons_succ, List.getElem_cons_zero, Act.put, List.setIfInBounds_toArray, List.set_cons_zero, List.set_cons_succ]
              refine wpAnyU_ready (rs := [16]) (by kernel_rfl) (by simp) ?_
              refine AllReadyU.cons rfl (fun K hK => ?_) AllReadyU.nil
              rw [if_pos (by kernel_rfl)]
              refine B.appK R (.tmp 44) (.tmp 46) 39 rfl H2.out.1 ?_ ?_ (by decide) H2.out.2.2 ?_
              · rfl
              · rfl
              intro u2 w12 k R B
              refine Shut.out hK _ _ (fun _ => HS.out.2.2.2.2 _ R.gb R.xb) ?_
              replace A := A.gr k (by decide)
              replace C := C.gr k (by decide)
              clear hK K k
              simp only [List.getElem_toArray, List.getElem_cons_succ, List.getElem_cons_zero, Act.put, List.setIfInBounds_toArray, List.set_cons_zero, List.set_cons_succ]
              refine wpAnyU_ready (rs := [22]) (by kernel_rfl) (by simp) ?_
              refine AllReadyU.cons rfl (fun K hK => ?_) AllReadyU.nil
              rw [if_pos (by kernel_rfl)]
              refine C.appK R (.tmp 51) (.tmp 52) 40 rfl H3.out.1 ?_ ?_ (by decide) H3.out.2.2 ?_
              · rfl
              · rfl
              intro u3 w13 k R C
              refine Shut.out hK _ _ (fun _ => HS.out.2.2.2.2 _ R.gb R.xb) ?_
              replace A := A.gr k (by decide)
              replace B := B.gr k (by decide)
              clear hK K k
              simp only [List.getElem_toArray, List.getElem_cons_succ, List.getElem_cons_zero, Act.put, List.setIfInBounds_toArray, List.set_cons_zero, List.set_cons_succ]
              refine wpAnyU_take (i := 23) (v := .pointer (some ⟨ga, 0, none⟩)) rfl (by kernel_rfl) (by kernel_rfl) (by kernel_rfl) (by decide) (fun _ _ _ h => h) (Or.inl ⟨by kernel_rfl, fun w' _ => ?_⟩) (fun _ => HS.out.2.2.2.2 _ R.gb R.xb) ?_
              · go_simp
              simp only [List.getElem_toArray, List.getElem_cons_succ, List.getElem_cons_zero, Act.put, List.setIfInBounds_toArray, List.set_cons_zero, List.set_cons_succ]
              refine wpAnyU_take (i := 24) (v := .pointer (some ⟨ga, 0, none⟩)) rfl (by kernel_rfl) (by kernel_rfl) (by kernel_rfl) (by decide) (fun _ _ _ h => h) (Or.inl ⟨by kernel_rfl, fun w' _ => ?_⟩) (fun _ => HS.out.2.2.2.2 _ R.gb R.xb) ?_
              · go_simp
              simp only [List.getElem_toArray, List.getElem_cons_succ, List.getElem_cons_zero, Act.put, List.setIfInBounds_toArray, List.set_cons_zero, List.set_cons_succ]
              refine wpAnyU_ready (rs := [25]) (by kernel_rfl) (by simp) ?_
              refine AllReadyU.cons rfl (fun K hK => ?_) AllReadyU.nil
              rw [if_pos (by kernel_rfl)]
              refine wp_store1 38 (.tmp 55) (.tmp 40) rfl ga 0 42 _ u1 rfl rfl R.gb (by simp) HI.out.1 A.one ?_
              refine Shut.out hK _ _ (fun h => Bool.noConfusion (Eq.trans (Eq.symm (by kernel_rfl)) h : true = false)) ?_
              replace A := A.far R (by decide) 0 u1
              replace B := B.far R (by decide) 0 u1
              replace C := C.far R (by decide) 0 u1
              replace R := R.set0 u1
              clear hK K
              simp only [List.getElem_toArray, List.getElem_cons_succ, List.getElem_cons_zero, Act.put, List.setIfInBounds_toArray, List.set_cons_zero, List.set_cons_succ]
              refine wpAnyU_take (i := 26) (v := .pointer (some ⟨ga, 0, none⟩)) rfl (by kernel_rfl) (by kernel_rfl) (by kernel_rfl) (by decide) (fun _ _ _ h => h) (Or.inl ⟨by kernel_rfl, fun w' _ => ?_⟩) (fun h => Bool.noConfusion (Eq.trans (Eq.symm (by kernel_rfl)) h : true = false)) ?_
              · go_simp
              simp only [List.getElem_toArray, List.getElem_cons_succ, List.getElem_cons_zero, Act.put, List.setIfInBounds_toArray, List.set_cons_zero, List.set_cons_succ]
              refine wpAnyU_take (i := 27) (v := .pointer (some ⟨ga, 1, none⟩)) rfl (by kernel_rfl) (by kernel_rfl) (by kernel_rfl) (by decide) (fun _ _ _ h => h) (Or.inl ⟨by kernel_rfl, fun w' _ => ?_⟩) (fun h => Bool.noConfusion (Eq.trans (Eq.symm (by kernel_rfl)) h : true = false)) ?_
              · go_simp
              simp only [List.getElem_toArray, List.getElem_cons_succ, List.getElem_cons_zero, Act.put, List.setIfInBounds_toArray, List.set_cons_zero, List.set_cons_succ]
              refine wpAnyU_ready (rs := [28]) (by kernel_rfl) (by simp) ?_
              refine AllReadyU.cons rfl (fun K hK => ?_) AllReadyU.nil
              rw [if_pos (by kernel_rfl)]
              refine wp_store1 39 (.tmp 57) (.tmp 47) rfl ga 1 42 _ u2 rfl rfl R.gb (by simp) HI.out.2.1 B.one ?_
              refine Shut.out hK _ _ (fun h => Bool.noConfusion (Eq.trans (Eq.symm (by kernel_rfl)) h : true = false)) ?_
              replace A := A.far R (by decide) 1 u2
              replace B := B.far R (by decide) 1 u2
              replace C := C.far R (by decide) 1 u2
              replace R := R.set1 u2
              clear hK K
              simp only [List.getElem_toArray, List.getElem_cons_succ, List.getElem_cons_zero, Act.put, List.setIfInBounds_toArray, List.set_cons_zero, List.set_cons_succ]
              refine wpAnyU_take (i := 29) (v := .pointer (some ⟨ga, 0, none⟩)) rfl (by kernel_rfl) (by kernel_rfl) (by kernel_rfl) (by decide) (fun _ _ _ h => h) (Or.inl ⟨by kernel_rfl, fun w' _ => ?_⟩) (fun h => Bool.noConfusion (Eq.trans (Eq.symm (by kernel_rfl)) h : true = false)) ?_
              · go_simp
              simp only [List.getElem_toArray, List.getElem_cons_succ, List.getElem_cons_zero, Act.put, List.setIfInBounds_toArray, List.set_cons_zero, List.set_cons_succ]
              refine wpAnyU_take (i := 30) (v := .pointer (some ⟨ga, 2, none⟩)) rfl (by kernel_rfl) (by kernel_rfl) (by kernel_rfl) (by decide) (fun _ _ _ h => h) (Or.inl ⟨by kernel_rfl, fun w' _ => ?_⟩) (fun h => Bool.noConfusion (Eq.trans (Eq.symm (by kernel_rfl)) h : true = false)) ?_
              · go_simp
              simp only [List.getElem_toArray, List.getElem_cons_succ, List.getElem_cons_zero, Act.put, List.setIfInBounds_toArray, List.set_cons_zero, List.set_cons_succ]
              refine wpAnyU_ready (rs := [31]) (by kernel_rfl) (by simp) ?_
              refine AllReadyU.cons rfl (fun K hK => ?_) AllReadyU.nil
              rw [if_pos (by kernel_rfl)]
              refine wp_store1 40 (.tmp 59) (.tmp 53) rfl ga 2 42 _ u3 rfl rfl R.gb (by simp) HI.out.2.2 C.one ?_
              refine Shut.out hK _ _ (fun h => Bool.noConfusion (Eq.trans (Eq.symm (by kernel_rfl)) h : true = false)) ?_
              replace A := A.far R (by decide) 2 u3
              replace B := B.far R (by decide) 2 u3
              replace C := C.far R (by decide) 2 u3
              replace R := R.set2 u3
              clear hK K
              simp only [List.getElem_toArray, List.getElem_cons_succ, List.getElem_cons_zero, Act.put, List.setIfInBounds_toArray, List.set_cons_zero, List.set_cons_succ]
              refine wpAnyU_done (by kernel_rfl) ?_ _
              have hE := HEND.out _ _ _ _ R A B C
              obtain ⟨A', c', rfl, q1, q2⟩ := row_form A.own
              have cF := R.gb.cell
              clear R A B C HEND
              go_wp2_with (fail)
              go_meet
              refine ⟨_, rfl, ?_⟩
              simpa using hE
            refine AllReadyU.cons rfl (fun K hK => ?_) ?_
            · rw [if_pos (by kernel_rfl)]
              refine B.buildK R [.slice AL nL cL] 39 (.tmp 45) rfl H2.out.1 rfl H2.out.2.1 ?_
              intro u2 w14 k R B
              refine Shut.out hK _ _ (fun _ => HS.out.2.2.2.2 _ R.gb R.xb) ?_
              replace A := A.al k
              replace C := C.al k
              clear hK K k
              simp only [List.getElem_toArray, List.getElem_cons_succ, List.getElem_cons_zero, Act.put, List.setIfInBounds_toArray, List.set_cons_zero, List.set_cons_succ]
              refine wpAnyU_ready (rs := [9, 21]) (by kernel_rfl) (by simp) ?_
              refine AllReadyU.cons rfl (fun K hK => ?_) ?_
              · rw [if_pos (by kernel_rfl)]
                refine A.appK R (.tmp 37) (.tmp 39) 38 rfl H1.out.1 ?_ ?_ (by decide) H1.out.2.2 ?_
                · rfl
                · rfl
                intro u1 w15 k R A
                refine Shut.out hK _ _ (fun _ => HS.out.2.2.2.2 _ R.gb R.xb) ?_
                replace B := B.gr k (by decide)
                replace C := C.gr k (by decide)
                clear hK K k
                simp only [List.getElem_toArray, List.getElem_cons_succ, List.getElem_cons_zero, Act.put, List.setIfInBounds_toArray, List.set_cons_zero, List.set_cons_succ]
                refine wpAnyU_ready (rs := [16, 21]) (by kernel_rfl) (by simp) ?_
                refine AllReadyU.cons rfl (fun K hK => ?_) ?_
                · rw [if_pos (by kernel_rfl)]
                  refine B.appK R (.tmp 44) (.tmp 46) 39 rfl H2.out.1 ?_ ?_ (by decide) H2.out.2.2 ?_
                  · rfl
                  · rfl
                  intro u2 w16 k R B
                  refine Shut.out hK _ _ (fun _ => HS.out.2.2.2.2 _ R.gb R.xb) ?_
                  replace A := A.gr k (by decide)
                  replace C := C.gr k (by decide)
                  clear hK K k
                  simp only [List.getElem_toArray, List.getElem_cons_succ, List.getElem_cons_zero, Act.put, List.setIfInBounds_toArray, List.set_cons_zero, List.set_cons_succ]
                  refine wpAnyU_ready (rs := [21]) (by kernel_rfl) (by simp) ?_
                  refine AllReadyU.cons rfl (fun K hK => ?_) AllReadyU.nil
                  rw [if_pos (by kernel_rfl)]
                  refine C.buildK R [.int .i64 0] 40 (.const (.int .i64 0)) rfl H3.out.1 rfl H3.out.2.1 ?_
                  intro u3 w17 k R C
                  refine Shut.out hK _ _ (fun _ => HS.out.2.2.2.2 _ R.gb R.xb) ?_
                  replace A := A.al k
                  replace B := B.al k
                  clear hK K k
                  simp only [List.getElem_toArray, List.getElem_cons_succ, List.getElem_cons_zero, Act.put, List.setIfInBounds_toArray, List.set_cons_zero, List.set_cons_succ]
                  refine wpAnyU_ready (rs := [22]) (by kernel_rfl) (by simp) ?_
                  refine AllReadyU.cons rfl (fun K hK => ?_) AllReadyU.nil
                  rw [if_pos (by kernel_rfl)]
                  refine C.appK R (.tmp 51) (.tmp 52) 40 rfl H3.out.1 ?_ ?_ (by decide) H3.out.2.2 ?_
                  · rfl
                  · rfl
                  intro u3 w18 k R C
                  refine Shut.out hK _ _ (fun _ => HS.out.2.2.2.2 _ R.gb R.xb) ?_
                  replace A := A.gr k (by decide)
                  replace B := B.gr k (by decide)
                  clear hK K k
                  simp only [List.getElem_toArray, List.getElem_cons_succ, List.getElem_cons_zero, Act.put, List.setIfInBounds_toArray, List.set_cons_zero, List.set_cons_succ]
                  refine wpAnyU_take (i := 23) (v := .pointer (some ⟨ga, 0, none⟩)) rfl (by kernel_rfl) (by kernel_rfl) (by kernel_rfl) (by decide) (fun _ _ _ h => h) (Or.inl ⟨by kernel_rfl, fun w' _ => ?_⟩) (fun _ => HS.out.2.2.2.2 _ R.gb R.xb) ?_
                  · go_simp
                  simp only [List.getElem_toArray, List.getElem_cons_succ, List.getElem_cons_zero, Act.put, List.setIfInBounds_toArray, List.set_cons_zero, List.set_cons_succ]
                  refine wpAnyU_take (i := 24) (v := .pointer (some ⟨ga, 0, none⟩)) rfl (by kernel_rfl) (by kernel_rfl) (by kernel_rfl) (by decide) (fun _ _ _ h => h) (Or.inl ⟨by kernel_rfl, fun w' _ => ?_⟩) (fun _ => HS.out.2.2.2.2 _ R.gb R.xb) ?_
                  · go_simp
                  simp only [List.getElem_toArray, List.getElem_cons_succ, List.getElem_cons_zero, Act.put, List.setIfInBounds_toArray, List.set_cons_zero, List.set_cons_succ]
                  refine wpAnyU_ready (rs := [25]) (by kernel_rfl) (by simp) ?_
                  refine AllReadyU.cons rfl (fun K hK => ?_) AllReadyU.nil
                  rw [if_pos (by kernel_rfl)]
                  refine wp_store1 38 (.tmp 55) (.tmp 40) rfl ga 0 42 _ u1 rfl rfl R.gb (by simp) HI.out.1 A.one ?_
                  refine Shut.out hK _ _ (fun h => Bool.noConfusion (Eq.trans (Eq.symm (by kernel_rfl)) h : true = false)) ?_
                  replace A := A.far R (by decide) 0 u1
                  replace B := B.far R (by decide) 0 u1
                  replace C := C.far R (by decide) 0 u1
                  replace R := R.set0 u1
                  clear hK K
                  simp only [List.getElem_toArray, List.getElem_cons_succ, List.getElem_cons_zero, Act.put, List.setIfInBounds_toArray, List.set_cons_zero, List.set_cons_succ]
                  refine wpAnyU_take (i := 26) (v := .pointer (some ⟨ga, 0, none⟩)) rfl (by kernel_rfl) (by kernel_rfl) (by kernel_rfl) (by decide) (fun _ _ _ h => h) (Or.inl ⟨by kernel_rfl, fun w' _ => ?_⟩) (fun h => Bool.noConfusion (Eq.trans (Eq.symm (by kernel_rfl)) h : true = false)) ?_
                  · go_simp
                  simp only [List.getElem_toArray, List.getElem_cons_succ, List.getElem_cons_zero, Act.put, List.setIfInBounds_toArray, List.set_cons_zero, List.set_cons_succ]
                  refine wpAnyU_take (i := 27) (v := .pointer (some ⟨ga, 1, none⟩)) rfl (by kernel_rfl) (by kernel_rfl) (by kernel_rfl) (by decide) (fun _ _ _ h => h) (Or.inl ⟨by kernel_rfl, fun w' _ => ?_⟩) (fun h => Bool.noConfusion (Eq.trans (Eq.symm (by kernel_rfl)) h : true = false)) ?_
                  · go_simp
                  simp only [List.getElem_toArray, List.getElem_cons_succ, List.getElem_cons_zero, Act.put, List.setIfInBounds_toArray, List.set_cons_zero, List.set_cons_succ]
                  refine wpAnyU_ready (rs := [28]) (by kernel_rfl) (by simp) ?_
                  refine AllReadyU.cons rfl (fun K hK => ?_) AllReadyU.nil
                  rw [if_pos (by kernel_rfl)]
                  refine wp_store1 39 (.tmp 57) (.tmp 47) rfl ga 1 42 _ u2 rfl rfl R.gb (by simp) HI.out.2.1 B.one ?_
                  refine Shut.out hK _ _ (fun h => Bool.noConfusion (Eq.trans (Eq.symm (by kernel_rfl)) h : true = false)) ?_
                  replace A := A.far R (by decide) 1 u2
                  replace B := B.far R (by decide) 1 u2
                  replace C := C.far R (by decide) 1 u2
                  replace R := R.set1 u2
                  clear hK K
                  simp only [List.getElem_toArray, List.getElem_cons_succ, List.getElem_cons_zero, Act.put, List.setIfInBounds_toArray, List.set_cons_zero, List.set_cons_succ]
                  refine wpAnyU_take (i := 29) (v := .pointer (some ⟨ga, 0, none⟩)) rfl (by kernel_rfl) (by kernel_rfl) (by kernel_rfl) (by decide) (fun _ _ _ h => h) (Or.inl ⟨by kernel_rfl, fun w' _ => ?_⟩) (fun h => Bool.noConfusion (Eq.trans (Eq.symm (by kernel_rfl)) h : true = false)) ?_
                  · go_simp
                  simp only [List.getElem_toArray, List.getElem_cons_succ, List.getElem_cons_zero, Act.put, List.setIfInBounds_toArray, List.set_cons_zero, List.set_cons_succ]
                  refine wpAnyU_take (i := 30) (v := .pointer (some ⟨ga, 2, none⟩)) rfl (by kernel_rfl) (by kernel_rfl) (by kernel_rfl) (by decide) (fun _ _ _ h => h) (Or.inl ⟨by kernel_rfl, fun w' _ => ?_⟩) (fun h => Bool.noConfusion (Eq.trans (Eq.symm (by kernel_rfl)) h : true = false)) ?_
                  · go_simp
                  simp only [List.getElem_toArray, List.getElem_cons_succ, List.getElem_cons_zero, Act.put, List.setIfInBounds_toArray, List.set_cons_zero, List.set_cons_succ]
                  refine wpAnyU_ready (rs := [31]) (by kernel_rfl) (by simp) ?_
                  refine AllReadyU.cons rfl (fun K hK => ?_) AllReadyU.nil
                  rw [if_pos (by kernel_rfl)]
                  refine wp_store1 40 (.tmp 59) (.tmp 53) rfl ga 2 42 _ u3 rfl rfl R.gb (by simp) HI.out.2.2 C.one ?_
                  refine Shut.out hK _ _ (fun h => Bool.noConfusion (Eq.trans (Eq.symm (by kernel_rfl)) h : true = false)) ?_
                  replace A := A.far R (by decide) 2 u3
                  replace B := B.far R (by decide) 2 u3
                  replace C := C.far R (by decide) 2 u3
                  replace R := R.set2 u3
                  clear hK K
                  simp only [List.getElem_toArray, List.getElem_cons_succ, List.getElem_cons_zero, Act.put, List.setIfInBounds_toArray, List.set_cons_zero, List.set_cons_succ]
                  refine wpAnyU_done (by kernel_rfl) ?_ _
                  have hE := HEND.out _ _ _ _ R A B C
                  obtain ⟨A', c', rfl, q1, q2⟩ := row_form A.own
                  have cF := R.gb.cell
                  clear R A B C HEND
                  go_wp2_with (fail)
                  go_meet
                  refine ⟨_, rfl, ?_⟩
                  simpa using hE
                refine AllReadyU.cons rfl (fun K hK => ?_) AllReadyU.nil
                rw [if_pos (by kernel_rfl)]
                refine C.buildK R [.int .i64 0] 40 (.const (.int .i64 0)) rfl H3.out.1 rfl H3.out.2.1 ?_
                intro u3 w19 k R C
                refine Shut.out hK _ _ (fun _ => HS.out.2.2.2.2 _ R.gb R.xb) ?_
                replace A := A.al k
                replace B := B.al k
                clear hK K k
                simp only [List.getElem_toArray, List.getElem_cons_succ, List.getElem_cons_zero, Act.put, List.setIfInBounds_toArray, List.set_cons_zero, List.set_cons_succ]
                refine wpAnyU_ready (rs := [16]) (by kernel_rfl) (by simp) ?_
                refine AllReadyU.cons rfl (fun K hK => ?_) AllReadyU.nil
                rw [if_pos (by kernel_rfl)]
                refine B.appK R (.tmp 44) (.tmp 46) 39 rfl H2.out.1 ?_ ?_ (by decide) H2.out.2.2 ?_
                · rfl
                · rfl
                intro u2 w20 k R B
                refine Shut.out hK _ _ (fun _ => HS.out.2.2.2.2 _ R.gb R.xb) ?_
                replace A := A.gr k (by decide)
                replace C := C.gr k (by decide)
                clear hK K k
                simp only [List.getElem_toArray, List.getElem_cons_succ, List.getElem_cons_zero, Act.put, List.setIfInBounds_toArray, List.set_cons_zero, List.set_cons_succ]
                refine wpAnyU_ready (rs := [22]) (by kernel_rfl) (by simp) ?_
                refine AllReadyU.cons rfl (fun K hK => ?_) AllReadyU.nil
                rw [if_pos (by kernel_rfl)]
                refine C.appK R (.tmp 51) (.tmp 52) 40 rfl H3.out.1 ?_ ?_ (by decide) H3.out.2.2 ?_
                · rfl
                · rfl
                intro u3 w21 k R C
                refine Shut.out hK _ _ (fun _ => HS.out.2.2.2.2 _ R.gb R.xb) ?_
                replace A := A.gr k (by decide)
                replace B := B.gr k (by decide)
                clear hK K k
                simp only [List.getElem_toArray, List.getElem_cons_succ, List.getElem_cons_zero, Act.put, List.setIfInBounds_toArray, List.set_cons_zero, List.set_cons_succ]
                refine wpAnyU_take (i := 23) (v := .pointer (some ⟨ga, 0, none⟩)) rfl (by kernel_rfl) (by kernel_rfl) (by kernel_rfl) (by decide) (fun _ _ _ h => h) (Or.inl ⟨by kernel_rfl, fun w' _ => ?_⟩) (fun _ => HS.out.2.2.2.2 _ R.gb R.xb) ?_
                · go_simp
                simp only [List.getElem_toArray, List.getElem_cons_succ, List.getElem_cons_zero, Act.put, List.setIfInBounds_toArray, List.set_cons_zero, List.set_cons_succ]
                refine wpAnyU_take (i := 24) (v := .pointer (some ⟨ga, 0, none⟩)) rfl (by kernel_rfl) (by kernel_rfl) (by kernel_rfl) (by decide) (fun _ _ _ h => h) (Or.inl ⟨by kernel_rfl, fun w' _ => ?_⟩) (fun _ => HS.out.2.2.2.2 _ R.gb R.xb) ?_
                · go_simp
                simp only [List.getElem_toArray, List.getElem_cons_succ, List.getElem_cons_zero, Act.put, List.setIfInBounds_toArray, List.set_cons_zero, List.set_cons_succ]
                refine wpAnyU_ready (rs := [25]) (by kernel_rfl) (by simp) ?_
                refine AllReadyU.cons rfl (fun K hK => ?_) AllReadyU.nil
                rw [if_pos (by kernel_rfl)]
                refine wp_store1 38 (.tmp 55) (.tmp 40) rfl ga 0 42 _ u1 rfl rfl R.gb (by simp) HI.out.1 A.one ?_
                refine Shut.out hK _ _ (fun h => Bool.noConfusion (Eq.trans (Eq.symm (by kernel_rfl)) h : true = false)) ?_
                replace A := A.far R (by decide) 0 u1
                replace B := B.far R (by decide) 0 u1
                replace C := C.far R (by decide) 0 u1
                replace R := R.set0 u1
                clear hK K
                simp only [List.getElem_toArray, List.getElem_cons_succ, List.getElem_cons_zero, Act.put, List.setIfInBounds_toArray, List.set_cons_zero, List.set_cons_succ]
                refine wpAnyU_take (i := 26) (v := .pointer (some ⟨ga, 0, none⟩)) rfl (by kernel_rfl) (by kernel_rfl) (by kernel_rfl) (by decide) (fun _ _ _ h => h) (Or.inl ⟨by kernel_rfl, fun w' _ => ?_⟩) (fun h => Bool.noConfusion (Eq.trans (Eq.symm (by kernel_rfl)) h : true = false)) ?_
                · go_simp
                simp only [List.getElem_toArray, List.getElem_cons_succ, List.getElem_cons_zero, Act.put, List.setIfInBounds_toArray, List.set_cons_zero, List.set_cons_succ]
                refine wpAnyU_take (i := 27) (v := .pointer (some ⟨ga, 1, none⟩)) rfl (by kernel_rfl) (by kernel_rfl) (by kernel_rfl) (by decide) (fun _ _ _ h => h) (Or.inl ⟨by kernel_rfl, fun w' _ => ?_⟩) (fun h => Bool.noConfusion (Eq.trans (Eq.symm (by kernel_rfl)) h : true = false)) ?_
                · go_simp
                simp only [List.getElem_toArray, List.getElem_cons_succ, List.getElem_cons_zero, Act.put, List.setIfInBounds_toArray, List.set_cons_zero, List.set_cons_succ]
                refine wpAnyU_ready (rs := [28]) (by kernel_rfl) (by simp) ?_
                refine AllReadyU.cons rfl (fun K hK => ?_) AllReadyU.nil
                rw [if_pos (by kernel_rfl)]
                refine wp_store1 39 (.tmp 57) (.tmp 47) rfl ga 1 42 _ u2 rfl rfl R.gb (by simp) HI.out.2.1 B.one ?_
                refine Shut.out hK _ _ (fun h => Bool.noConfusion (Eq.trans (Eq.symm (by kernel_rfl)) h : true = false)) ?_
                replace A := A.far R (by decide) 1 u2
                replace B := B.far R (by decide) 1 u2
                replace C := C.far R (by decide) 1 u2
                replace R := R.set1 u2
                clear hK K
                simp only [List.getElem_toArray, List.getElem_cons_succ, List.getElem_cons_zero, Act.put, List.setIfInBounds_toArray, List.set_cons_zero, List.set_cons_succ]
                refine wpAnyU_take (i := 29) (v := .pointer (some ⟨ga, 0, none⟩)) rfl (by kernel_rfl) (by kernel_rfl) (by kernel_rfl) (by decide) (fun _ _ _ h => h) (Or.inl ⟨by kernel_rfl, fun w' _ => ?_⟩) (fun h => Bool.noConfusion (Eq.trans (Eq.symm (by kernel_rfl)) h : true = false)) ?_
                · go_simp
                simp only [List.getElem_toArray, List.getElem_cons_succ, List.getElem_cons_zero, Act.put, List.setIfInBounds_toArray, List.set_cons_zero, List.set_cons_succ]
                refine wpAnyU_take (i := 30) (v := .pointer (some ⟨ga, 2, none⟩)) rfl (by kernel_rfl) (by kernel_rfl) (by kernel_rfl) (by decide) (fun _ _ _ h => h) (Or.inl ⟨by kernel_rfl, fun w' _ => ?_⟩) (fun h => Bool.noConfusion (Eq.trans (Eq.symm (by kernel_rfl)) h : true = false)) ?_
                · go_simp
                simp only [List.getElem_toArray, List.getElem_cons_succ, List.getElem_cons_zero, Act.put, List.setIfInBounds_toArray, List.set_cons_zero, List.set_cons_succ]
                refine wpAnyU_ready (rs := [31]) (by kernel_rfl) (by simp) ?_
                refine AllReadyU.cons rfl (fun K hK => ?_) AllReadyU.nil
                rw [if_pos (by kernel_rfl)]
                refine wp_store1 40 (.tmp 59) (.tmp 53) rfl ga 2 42 _ u3 rfl rfl R.gb (by simp) HI.out.2.2 C.one ?_
                refine Shut.out hK _ _ (fun h => Bool.noConfusion (Eq.trans (Eq.symm (by kernel_rfl)) h : true = false)) ?_
                replace A := A.far R (by decide) 2 u3
                replace B := B.far R (by decide) 2 u3
                replace C := C.far R (by decide) 2 u3
                replace R := R.set2 u3
                clear hK K
                simp only [List.getElem_toArray, List.getElem_cons_succ, List.getElem_cons_zero, Act.put, List.setIfInBounds_toArray, List.set_cons_zero, List.set_cons_succ]
                refine wpAnyU_done (by kernel_rfl) ?_ _
                have hE := HEND.out _ _ _ _ R A B C
                obtain ⟨A', c', rfl, q1, q2⟩ := row_form A.own
                have cF := R.gb.cell
                clear R A B C HEND
                go_wp2_with (fail)
                go_meet
                refine ⟨_, rfl, ?_⟩
                simpa using hE
              refine AllReadyU.cons rfl (fun K hK => ?_) AllReadyU.nil
              rw [if_pos (by kernel_rfl)]
              refine C.buildK R [.int .i64 0] 40 (.const (.int .i64 0)) rfl H3.out.1 rfl H3.out.2.1 ?_
              intro u3 w22 k R C
              refine Shut.out hK _ _ (fun _ => HS.out.2.2.2.2 _ R.gb R.xb) ?_
              replace A := A.al k
              replace B := B.al k
              clear hK K k
              simp only [List.getElem_toArray, List.getElem_cons_succ, List.getElem_cons_zero, Act.put, List.setIfInBounds_toArray, List.set_cons_zero, List.set_cons_succ]
              refine wpAnyU_ready (rs := [9]) (by kernel_rfl) (by simp) ?_
              refine AllReadyU.cons rfl (fun K hK => ?_) AllReadyU.nil
              rw [if_pos (by kernel_rfl)]
              refine A.appK R (.tmp 37) (.tmp 39) 38 rfl H1.out.1 ?_ ?_ (by decide) H1.out.2.2 ?_
              · rfl
              · rfl
              intro u1 w23 k R A
              refine Shut.out hK _ _ (fun _ => HS.out.2.2.2.2 _ R.gb R.xb) ?_
              replace B := B.gr k (by decide)
              replace C := C.gr k (by decide)
              clear hK K k
              simp only [List.getElem_toArray, List.getElem_cons_succ, List.getElem_cons_zero, Act.put, List.setIfInBounds_toArray, List.set_cons_zero, List.set_cons_succ]
              refine wpAnyU_ready (rs := [16]) (by kernel_rfl) (by simp) ?_
              refine AllReadyU.cons rfl (fun K hK => ?_) AllReadyU.nil
              rw [if_pos (by kernel_rfl)]
              refine B.appK R (.tmp 44) (.tmp 46) 39 rfl H2.out.1 ?_ ?_ (by decide) H2.out.2.2 ?_
              · rfl
              · rfl
              intro u2 w24 k R B
              refine Shut.out hK _ _ (fun _ => HS.out.2.2.2.2 _ R.gb R.xb) ?_
              replace A := A.gr k (by decide)
              replace C := C.gr k (by decide)
              clear hK K k
              simp only [List.getElem_toArray, List.getElem_cons_succ, List.getElem_cons_zero, Act.put, List.setIfInBounds_toArray, List.set_cons_zero, List.set_cons_succ]
              refine wpAnyU_ready (rs := [22]) (by kernel_rfl) (by simp) ?_
              refine AllReadyU.cons rfl (fun K hK => ?_) AllReadyU.nil
              rw [if_pos (by kernel_rfl)]
              refine C.appK R (.tmp 51) (.tmp 52) 40 rfl H3.out.1 ?_ ?_ (by decide) H3.out.2.2 ?_
              · rfl
              · rfl
              intro u3 w25 k R C
              refine Shut.out hK _ _ (fun _ => HS.out.2.2.2.2 _ R.gb R.xb) ?_
              replace A := A.gr k (by decide)
              replace B := B.gr k (by decide)
              clear hK K k
              simp only [List.getElem_toArray, List.getElem_cons_succ, List.getElem_cons_zero, Act.put, List.setIfInBounds_toArray, List.set_cons_zero, List.set_cons_succ]
              refine wpAnyU_take (i := 23) (v := .pointer (some ⟨ga, 0, none⟩)) rfl (by kernel_rfl) (by kernel_rfl) (by kernel_rfl) (by decide) (fun _ _ _ h => h) (Or.inl ⟨by kernel_rfl, fun w' _ => ?_⟩) (fun _ => HS.out.2.2.2.2 _ R.gb R.xb) ?_
              · go_simp
              simp only [List.getElem_toArray, List.getElem_cons_succ, List.getElem_cons_zero, Act.put, List.setIfInBounds_toArray, List.set_cons_zero, List.set_cons_succ]
              refine wpAnyU_take (i := 24) (v := .pointer (some ⟨ga, 0, none⟩)) rfl (by kernel_rfl) (by kernel_rfl) (by kernel_rfl) (by decide) (fun _ _ _ h => h) (Or.inl ⟨by kernel_rfl, fun w' _ => ?_⟩) (fun _ => HS.out.2.2.2.2 _ R.gb R.xb) ?_
              · go_simp
              simp only [List.getElem_toArray, List.getElem_cons_succ, List.getElem_cons_zero, Act.put, List.setIfInBounds_toArray, List.set_cons_zero, List.set_cons_succ]
              refine wpAnyU_ready (rs := [25]) (by kernel_rfl) (by simp) ?_
              refine AllReadyU.cons rfl (fun K hK => ?_) AllReadyU.nil
              rw [if_pos (by kernel_rfl)]
              refine wp_store1 38 (.tmp 55) (.tmp 40) rfl ga 0 42 _ u1 rfl rfl R.gb (by simp) HI.out.1 A.one ?_
              refine Shut.out hK _ _ (fun h => Bool.noConfusion (Eq.trans (Eq.symm (by kernel_rfl)) h : true = false)) ?_
              replace A := A.far R (by decide) 0 u1
              replace B := B.far R (by decide) 0 u1
              replace C := C.far R (by decide) 0 u1
              replace R := R.set0 u1
              clear hK K
              simp only [List.getElem_toArray, List.getElem_cons_succ, List.getElem_cons_zero, Act.put, List.setIfInBounds_toArray, List.set_cons_zero, List.set_cons_succ]
              refine wpAnyU_take (i := 26) (v := .pointer (some ⟨ga, 0, none⟩)) rfl (by kernel_rfl) (by kernel_rfl) (by kernel_rfl) (by decide) (fun _ _ _ h => h) (Or.inl ⟨by kernel_rfl, fun w' _ => ?_⟩) (fun h => Bool.noConfusion (Eq.trans (Eq.symm (by kernel_rfl)) h : true = false)) ?_
              · go_simp
              simp only [List.getElem_toArray, List.getElem_cons_succ, List.getElem_cons_zero, Act.put, List.setIfInBounds_toArray, List.set_cons_zero, List.set_cons_succ]
              refine wpAnyU_take (i := 27) (v := .pointer (some ⟨ga, 1, none⟩)) rfl (by kernel_rfl) (by kernel_rfl) (by kernel_rfl) (by decide) (fun _ _ _ h => h) (Or.inl ⟨by kernel_rfl, fun w' _ => ?_⟩) (fun h => Bool.noConfusion (Eq.trans (Eq.symm (by kernel_rfl)) h : true = false)) ?_
              · go_simp
              simp only [List.getElem_toArray, List.getElem_cons_succ, List.getElem_cons_zero, Act.put, List.setIfInBounds_toArray, List.set_cons_zero, List.set_cons_succ]
              refine wpAnyU_ready (rs := [28]) (by kernel_rfl) (by simp) ?_
              refine AllReadyU.cons rfl (fun K hK => ?_) AllReadyU.nil
              rw [if_pos (by kernel_rfl)]
              refine wp_store1 39 (.tmp 57) (.tmp 47) rfl ga 1 42 _ u2 rfl rfl R.gb (by simp) HI.out.2.1 B.one ?_
              refine Shut.out hK _ _ (fun h => Bool.noConfusion (Eq.trans (Eq.symm (by kernel_rfl)) h : true = false)) ?_
              replace A := A.far R (by decide) 1 u2
              replace B := B.far R (by decide) 1 u2
              replace C := C.far R (by decide) 1 u2
              replace R := R.set1 u2
              clear hK K
              simp only [List.getElem_toArray, List.getElem_cons_succ, List.getElem_cons_zero, Act.put, List.setIfInBounds_toArray, List.set_cons_zero, List.set_cons_succ]
              refine wpAnyU_take (i := 29) (v := .pointer (some ⟨ga, 0, none⟩)) rfl (by kernel_rfl) (by kernel_rfl) (by kernel_rfl) (by decide) (fun _ _ _ h => h) (Or.inl ⟨by kernel_rfl, fun w' _ => ?_⟩) (fun h => Bool.noConfusion (Eq.trans (Eq.symm (by kernel_rfl)) h : true = false)) ?_
              · go_simp
              simp only [List.getElem_toArray, List.getElem_cons_succ, List.getElem_cons_zero, Act.put, List.setIfInBounds_toArray, List.set_cons_zero, List.set_cons_succ]
              refine wpAnyU_take (i := 30) (v := .pointer (some ⟨ga, 2, none⟩)) rfl (by kernel_rfl) (by kernel_rfl) (by kernel_rfl) (by decide) (fun _ _ _ h => h) (Or.inl ⟨by kernel_rfl, fun w' _ => ?_⟩) (fun h => Bool.noConfusion (Eq.trans (Eq.symm (by kernel_rfl)) h : true = false)) ?_
              · go_simp
              simp only [List.getElem_toArray, List.getElem_cons_succ, List.getElem_cons_zero, Act.put, List.setIfInBounds_toArray, List.set_cons_zero, List.set_cons_succ]
              refine wpAnyU_ready (rs := [31]) (by kernel_rfl) (by simp) ?_
              refine AllReadyU.cons rfl (fun K hK => ?_) AllReadyU.nil
              rw [if_pos (by kernel_rfl)]
              refine wp_store1 40 (.tmp 59) (.tmp 53) rfl ga 2 42 _ u3 rfl rfl R.gb (by simp) HI.out.2.2 C.one ?_
              refine Shut.out hK _ _ (fun h => Bool.noConfusion (Eq.trans (Eq.symm (by kernel_rfl)) h : true = false)) ?_
              replace A := A.far R (by decide) 2 u3
              replace B := B.far R (by decide) 2 u3
              replace C := C.far R (by decide) 2 u3
              replace R := R.set2 u3
              clear hK K
              simp only [List.getElem_toArray, List.getElem_cons_succ, List.getElem_cons_zero, Act.put, List.setIfInBounds_toArray, List.set_cons_zero, List.set_cons_succ]
              refine wpAnyU_done (by kernel_rfl) ?_ _
              have hE := HEND.out _ _ _ _ R A B C
              obtain ⟨A', c', rfl, q1, q2⟩ := row_form A.own
              have cF := R.gb.cell
              clear R A B C HEND
              go_wp2_with (fail)
              go_meet
              refine ⟨_, rfl, ?_⟩
              simpa using hE
            refine AllReadyU.cons rfl (fun K hK => ?_) AllReadyU.nil
            rw [if_pos (by kernel_rfl)]
            refine C.buildK R [.int .i64 0] 40 (.const (.int .i64 0)) rfl H3.out.1 rfl H3.out.2.1 ?_
            intro u3 w26 k R C
            refine Shut.out hK _ _ (fun _ => HS.out.2.2.2.2 _ R.gb R.xb) ?_
            replace A := A.al k
            replace B := B.al k
            clear hK K k
            simp only [List.getElem_toArray, List.getElem_cons_succ, List.getElem_cons_zero, Act.put, List.setIfInBounds_toArray, List.set_cons_zero, List.set_cons_succ]
            refine wpAnyU_ready (rs := [9, 15]) (by kernel_rfl) (by simp) ?_
            refine AllReadyU.cons rfl (fun K hK => ?_) ?_
            · rw [if_pos (by kernel_rfl)]
              refine A.appK R (.tmp 37) (.tmp 39) 38 rfl H1.out.1 ?_ ?_ (by decide) H1.out.2.2 ?_
              · rfl
              · rfl
              intro u1 w27 k R A
              refine Shut.out hK _ _ (fun _ => HS.out.2.2.2.2 _ R.gb R.xb) ?_
              replace B := B.gr k (by decide)
              replace C := C.gr k (by decide)
              clear hK K k
              simp only [List.getElem_toArray, List.getElem_cons_succ, List.getElem_cons_zero, Act.put, List.setIfInBounds_toArray, List.set_cons_zero, List.set_cons_succ]
              refine wpAnyU_ready (rs := [15]) (by kernel_rfl) (by simp) ?_
              refine AllReadyU.cons rfl (fun K hK => ?_) AllReadyU.nil
              rw [if_pos (by kernel_rfl)]
              refine B.buildK R [.slice AL nL cL] 39 (.tmp 45) rfl H2.out.1 rfl H2.out.2.1 ?_
              intro u2 w28 k R B
              refine Shut.out hK _ _ (fun _ => HS.out.2.2.2.2 _ R.gb R.xb) ?_
              replace A := A.al k
              replace C := C.al k
              clear hK K k
              simp only [List.getElem_toArray, List.getElem_cons_succ, List.getElem_cons_zero, Act.put, List.setIfInBounds_toArray, List.set_cons_zero, List.set_cons_succ]
              refine wpAnyU_ready (rs := [16]) (by kernel_rfl) (by simp) ?_
              refine AllReadyU.cons rfl (fun K hK => ?_) AllReadyU.nil
              rw [if_pos (by kernel_rfl)]
              refine B.appK R (.tmp 44) (.tmp 46) 39 rfl H2.out.1 ?_ ?_ (by decide) H2.out.2.2 ?_
              · rfl
              · rfl
              intro u2 w29 k R B
              refine Shut.out hK _ _ (fun _ => HS.out.2.2.2.2 _ R.gb R.xb) ?_
              replace A := A.gr k (by decide)
              replace C := C.gr k (by decide)
              clear hK K k
              simp only [List.getElem_toArray, List.getElem_cons_succ, List.getElem_cons_zero, Act.put, List.setIfInBounds_toArray, List.set_cons_zero, List.set_cons_succ]
              refine wpAnyU_ready (rs := [22]) (by kernel_rfl) (by simp) ?_
              refine AllReadyU.cons rfl (fun K hK => ?_) AllReadyU.nil
              rw [if_pos (by kernel_rfl)]
              refine C.appK R (.tmp 51) (.tmp 52) 40 rfl H3.out.1 ?_ ?_ (by decide) H3.out.2.2 ?_
              · rfl
              · rfl
              intro u3 w30 k R C
              refine Shut.out hK _ _ (fun _ => HS.out.2.2.2.2 _ R.gb R.xb) ?_
              replace A := A.gr k (by decide)
              replace B := B.gr k (by decide)
              clear hK K k
              simp only [List.getElem_toArray, List.getElem_cons_succ, List.getElem_cons_zero, Act.put, List.setIfInBounds_toArray, List.set_cons_zero, List.set_cons_succ]
              refine wpAnyU_take (i := 23) (v := .pointer (some ⟨ga, 0, none⟩)) rfl (by kernel_rfl) (by kernel_rfl) (by kernel_rfl) (by decide) (fun _ _ _ h => h) (Or.inl ⟨by kernel_rfl, fun w' _ => ?_⟩) (fun _ => HS.out.2.2.2.2 _ R.gb R.xb) ?_
              · go_simp
              simp only [List.getElem_toArray, List.getElem_cons_succ, List.getElem_cons_zero, Act.put, List.setIfInBounds_toArray, List.set_cons_zero, List.set_cons_succ]
              refine wpAnyU_take (i := 24) (v := .pointer (some ⟨ga, 0, none⟩)) rfl (by kernel_rfl) (by kernel_rfl) (by kernel_rfl) (by decide) (fun _ _ _ h => h) (Or.inl ⟨by kernel_rfl, fun w' _ => ?_⟩) (fun _ => HS.out.2.2.2.2 _ R.gb R.xb) ?_
              · go_simp
              simp only [List.getElem_toArray, List.getElem_cons_succ, List.getElem_cons_zero, Act.put, List.setIfInBounds_toArray, List.set_cons_zero, List.set_cons_succ]
              refine wpAnyU_ready (rs := [25]) (by kernel_rfl) (by simp) ?_
              refine AllReadyU.cons rfl (fun K hK => ?_) AllReadyU.nil
              rw [if_pos (by kernel_rfl)]
              refine wp_store1 38 (.tmp 55) (.tmp 40) rfl ga 0 42 _ u1 rfl rfl R.gb (by simp) HI.out.1 A.one ?_
              refine Shut.out hK _ _ (fun h => Bool.noConfusion (Eq.trans (Eq.symm (by kernel_rfl)) h : true = false)) ?_
              replace A := A.far R (by decide) 0 u1
              replace B := B.far R (by decide) 0 u1
              replace C := C.far R (by decide) 0 u1
              replace R := R.set0 u1
              clear hK K
              simp only [List.getElem_toArray, List.getElem_cons_succ, List.getElem_cons_zero, Act.put, List.setIfInBounds_toArray, List.set_cons_zero, List.set_cons_succ]
              refine wpAnyU_take (i := 26) (v := .pointer (some ⟨ga, 0, none⟩)) rfl (by kernel_rfl) (by kernel_rfl) (by kernel_rfl) (by decide) (fun _ _ _ h => h) (Or.inl ⟨by kernel_rfl, fun w' _ => ?_⟩) (fun h => Bool.noConfusion (Eq.trans (Eq.symm (by kernel_rfl)) h : true = false)) ?_
              · go_simp
              simp only [List.getElem_toArray, List.getElem_cons_succ, List.getElem_cons_zero, Act.put, List.setIfInBounds_toArray, List.set_cons_zero, List.set_cons_succ]
              refine wpAnyU_take (i := 27) (v := .pointer (some ⟨ga, 1, none⟩)) rfl (by kernel_rfl) (by kernel_rfl) (by kernel_rfl) (by decide) (fun _ _ _ h => h) (Or.inl ⟨by kernel_rfl, fun w' _ => ?_⟩) (fun h => Bool.noConfusion (Eq.trans (Eq.symm (by kernel_rfl)) h : true = false)) ?_
              · go_simp
              simp only [List.getElem_toArray, List.getElem_cons_succ, List.getElem_cons_zero, Act.put, List.setIfInBounds_toArray, List.set_cons_zero, List.set_cons_succ]
              refine wpAnyU_ready (rs := [28]) (by kernel_rfl) (by simp) ?_
              refine AllReadyU.cons rfl (fun K hK => ?_) AllReadyU.nil
              rw [if_pos (by kernel_rfl)]
              refine wp_store1 39 (.tmp 57) (.tmp 47) rfl ga 1 42 _ u2 rfl rfl R.gb (by simp) HI.out.2.1 B.one ?_
              refine Shut.out hK _ _ (fun h => Bool.noConfusion (Eq.trans (Eq.symm (by kernel_rfl)) h : true = false)) ?_
              replace A := A.far R (by decide) 1 u2
              replace B := B.far R (by decide) 1 u2
              replace C := C.far R (by decide) 1 u2
              replace R := R.set1 u2
              clear hK K
              simp only [List.getElem_toArray, List.getElem_cons_succ, List.getElem_cons_zero, Act.put, List.setIfInBounds_toArray, List.set_cons_zero, List.set_cons_succ]
              refine wpAnyU_take (i := 29) (v := .pointer (some ⟨ga, 0, none⟩)) rfl (by kernel_rfl) (by kernel_rfl) (by kernel_rfl) (by decide) (fun _ _ _ h => h) (Or.inl ⟨by kernel_rfl, fun w' _ => ?_⟩) (fun h => Bool.noConfusion (Eq.trans (Eq.symm (by kernel_rfl)) h : true = false)) ?_
              · go_simp
              simp only [List.getElem_toArray, List.getElem_cons_succ, List.getElem_cons_zero, Act.put, List.setIfInBounds_toArray, List.set_cons_zero, List.set_cons_succ]
              refine wpAnyU_take (i := 30) (v := .pointer (some ⟨ga, 2, none⟩)) rfl (by kernel_rfl) (by kernel_rfl) (by kernel_rfl) (by decide) (fun _ _ _ h => h) (Or.inl ⟨by kernel_rfl, fun w' _ => ?_⟩) (fun h => Bool.noConfusion (Eq.trans (Eq.symm (by kernel_rfl)) h : true = false)) ?_
              · go_simp
              simp only [List.getElem_toArray, List.getElem_cons_succ, List.getElem_cons_zero, Act.put, List.setIfInBounds_toArray, List.set_cons_zero, List.set_cons_succ]
              refine wpAnyU_ready (rs := [31]) (by kernel_rfl) (by simp) ?_
              refine AllReadyU.cons rfl (fun K hK => ?_) AllReadyU.nil
              rw [if_pos (by kernel_rfl)]
              refine wp_store1 40 (.tmp 59) (.tmp 53) rfl ga 2 42 _ u3 rfl rfl R.gb (by simp) HI.out.2.2 C.one ?_
              refine Shut.out hK _ _ (fun h => Bool.noConfusion (Eq.trans (Eq.symm (by kernel_rfl)) h : true = false)) ?_
              replace A := A.far R (by decide) 2 u3
              replace B := B.far R (by decide) 2 u3
              replace C := C.far R (by decide) 2 u3
              replace R := R.set2 u3
              clear hK K
              simp only [List.getElem_toArray, List.getElem_cons_succ, List.getElem_cons_zero, Act.put, List.setIfInBounds_toArray, List.set_cons_zero, List.set_cons_succ]
              refine wpAnyU_done (by kernel_rfl) ?_ _
              have hE := HEND.out _ _ _ _ R A B C
              obtain ⟨A', c', rfl, q1, q2⟩ := row_form A.own
              have cF := R.gb.cell
              clear R A B C HEND
              go_wp2_with (fail)
              go_meet
              refine ⟨_, rfl, ?_⟩
              simpa using hE
            refine AllReadyU.cons rfl (fun K hK => ?_) AllReadyU.nil
            rw [if_pos (by kernel_rfl)]
            refine B.buildK R [.slice AL nL cL] 39 (.tmp 45) rfl H2.out.1 rfl H2.out.2.1 ?_
            intro u2 w31 k R B
            refine Shut.out hK _ _ (fun _ => HS.out.2.2.2.2 _ R.gb R.xb) ?_
            replace A := A.al k
            replace C := C.al k
            clear hK K k
            simp only [List.getElem_toArray, List.getElem_cons_succ, List.getElem_cons_zero, Act.put, List.setIfInBounds_toArray, List.set_cons_zero, List.set_cons_succ]
            refine wpAnyU_ready (rs := [9]) (by kernel_rfl) (by simp) ?_
            refine AllReadyU.cons rfl (fun K hK => ?_) AllReadyU.nil
            rw [if_pos (by kernel_rfl)]
            refine A.appK R (.tmp 37) (.tmp 39) 38 rfl H1.out.1 ?_ ?_ (by decide) H1.out.2.2 ?_
            · rfl
            · rfl
            intro u1 w32 k R A
            refine Shut.out hK _ _ (fun _ => HS.out.2.2.2.2 _ R.gb R.xb) ?_
            replace B := B.gr k (by decide)
            replace C := C.gr k (by decide)
            clear hK K k
            simp only [List.getElem_toArray, List.getElem_cons_succ, List.getElem_cons_zero, Act.put, List.setIfInBounds_toArray, List.set_cons_zero, List.set_cons_succ]
            refine wpAnyU_ready (rs := [16]) (by kernel_rfl) (by simp) ?_
            refine AllReadyU.cons rfl (fun K hK => ?_) AllReadyU.nil
            rw [if_pos (by kernel_rfl)]
            refine B.appK R (.tmp 44) (.tmp 46) 39 rfl H2.out.1 ?_ ?_ (by decide) H2.out.2.2 ?_
            · rfl
            · rfl
            intro u2 w33 k R B
            refine Shut.out hK _ _ (fun _ => HS.out.2.2.2.2 _ R.gb R.xb) ?_
            replace A := A.gr k (by decide)
            replace C := C.gr k (by decide)
            clear hK K k
            simp only [List.getElem_toArray, List.getElem_cons_succ, List.getElem_cons_zero, Act.put, List.setIfInBounds_toArray, List.set_cons_zero, List.set_cons_succ]
            refine wpAnyU_ready (rs := [22]) (by kernel_rfl) (by simp) ?_
            refine AllReadyU.cons rfl (fun K hK => ?_) AllReadyU.nil
            rw [if_pos (by kernel_rfl)]
            refine C.appK R (.tmp 51) (.tmp 52) 40 rfl H3.out.1 ?_ ?_ (by decide) H3.out.2.2 ?_
            · rfl
            · rfl
            intro u3 w34 k R C
            refine Shut.out hK _ _ (fun _ => HS.out.2.2.2.2 _ R.gb R.xb) ?_
            replace A := A.gr k (by decide)
            replace B := B.gr k (by decide)
            clear hK K k
            simp only [List.getElem_toArray, List.getElem_cons_succ, List.getElem_cons_zero, Act.put, List.setIfInBounds_toArray, List.set_cons_zero, List.set_cons_succ]
            refine wpAnyU_take (i := 23) (v := .pointer (some ⟨ga, 0, none⟩)) rfl (by kernel_rfl) (by kernel_rfl) (by kernel_rfl) (by decide) (fun _ _ _ h => h) (Or.inl ⟨by kernel_rfl, fun w' _ => ?_⟩) (fun _ => HS.out.2.2.2.2 _ R.gb R.xb) ?_
            · go_simp
            simp only [List.getElem_toArray, List.getElem_cons_succ, List.getElem_cons_zero, Act.put, List.setIfInBounds_toArray, List.set_cons_zero, List.set_cons_succ]
            refine wpAnyU_take (i := 24) (v := .pointer (some ⟨ga, 0, none⟩)) rfl (by kernel_rfl) (by kernel_rfl) (by kernel_rfl) (by decide) (fun _ _ _ h => h) (Or.inl ⟨by kernel_rfl, fun w' _ => ?_⟩) (fun _ => HS.out.2.2.2.2 _ R.gb R.xb) ?_
            · go_simp
            simp only [List.getElem_toArray, List.getElem_cons_succ, List.getElem_cons_zero, Act.put, List.setIfInBounds_toArray, List.set_cons_zero, List.set_cons_succ]
            refine wpAnyU_ready (rs := [25]) (by kernel_rfl) (by simp) ?_
            refine AllReadyU.cons rfl (fun K hK => ?_) AllReadyU.nil
            rw [if_pos (by kernel_rfl)]
            refine wp_store1 38 (.tmp 55) (.tmp 40) rfl ga 0 42 _ u1 rfl rfl R.gb (by simp) HI.out.1 A.one ?_
            refine Shut.out hK _ _ (fun h => Bool.noConfusion (Eq.trans (Eq.symm (by kernel_rfl)) h : true = false)) ?_
            replace A := A.far R (by decide) 0 u1
            replace B := B.far R (by decide) 0 u1
            replace C := C.far R (by decide) 0 u1
            replace R := R.set0 u1
            clear hK K
            simp only [List.getElem_toArray, List.getElem_cons_succ, List.getElem_cons_zero, Act.put, List.setIfInBounds_toArray, List.set_cons_zero, List.set_cons_succ]
            refine wpAnyU_take (i := 26) (v := .pointer (some ⟨ga, 0, none⟩)) rfl (by kernel_rfl) (by kernel_rfl) (by kernel_rfl) (by decide) (fun _ _ _ h => h) (Or.inl ⟨by kernel_rfl, fun w' _ => ?_⟩) (fun h => Bool.noConfusion (Eq.trans (Eq.symm (by kernel_rfl)) h : true = false)) ?_
            · go_simp
            simp only [List.getElem_toArray, List.getElem_cons_succ, List.getElem_cons_zero, Act.put, List.setIfInBounds_toArray, List.set_cons_zero, List.set_cons_succ]
            refine wpAnyU_take (i := 27) (v := .pointer (some ⟨ga, 1, none⟩)) rfl (by kernel_rfl) (by kernel_rfl) (by kernel_rfl) (by decide) (fun _ _ _ h => h) (Or.inl ⟨by kernel_rfl, fun w' _ => ?_⟩) (fun h => Bool.noConfusion (Eq.trans (Eq.symm (by kernel_rfl)) h : true = false)) ?_
            · go_simp
            simp only [List.getElem_toArray, List.getElem_cons_succ, List.getElem_cons_zero, Act.put, List.setIfInBounds_toArray, List.set_cons_zero, List.set_cons_succ]
            refine wpAnyU_ready (rs := [28]) (by kernel_rfl) (by simp) ?_
            refine AllReadyU.cons rfl (fun K hK => ?_) AllReadyU.nil
            rw [if_pos (by kernel_rfl)]
            refine wp_store1 39 (.tmp 57) (.tmp 47) rfl ga 1 42 _ u2 rfl rfl R.gb (by simp) HI.out.2.1 B.one ?_
            refine Shut.out hK _ _ (fun h => Bool.noConfusion (Eq.trans (Eq.symm (by kernel_rfl)) h : true = false)) ?_
            replace A := A.far R (by decide) 1 u2
            replace B := B.far R (by decide) 1 u2
            replace C := C.far R (by decide) 1 u2
            replace R := R.set1 u2
            clear hK K
            simp only [List.getElem_toArray, List.getElem_cons_succ, List.getElem_cons_zero, Act.put, List.setIfInBounds_toArray, List.set_cons_zero, List.set_cons_succ]
            refine wpAnyU_take (i := 29) (v := .pointer (some ⟨ga, 0, none⟩)) rfl (by kernel_rfl) (by kernel_rfl) (by kernel_rfl) (by decide) (fun _ _ _ h => h) (Or.inl ⟨by kernel_rfl, fun w' _ => ?_⟩) (fun h => Bool.noConfusion (Eq.trans (Eq.symm (by kernel_rfl)) h : true = false)) ?_
            · go_simp
            simp only [List.getElem_toArray, List.getElem_cons_succ, List.getElem_cons_zero, Act.put, List.setIfInBounds_toArray, List.set_cons_zero, List.set_cons_succ]
            refine wpAnyU_take (i := 30) (v := .pointer (some ⟨ga, 2, none⟩)) rfl (by kernel_rfl) (by kernel_rfl) (by kernel_rfl) (by decide) (fun _ _ _ h => h) (Or.inl ⟨by kernel_rfl, fun w' _ => ?_⟩) (fun h => Bool.noConfusion (Eq.trans (Eq.symm (by kernel_rfl)) h : true = false)) ?_
            · go_simp
            simp only [List.getElem_toArray, List.getElem_cons_succ, List.getElem_cons_zero, Act.put, List.setIfInBounds_toArray, List.set_cons_zero, List.set_cons_succ]
            refine wpAnyU_ready (rs := [31]) (by kernel_rfl) (by simp) ?_
            refine AllReadyU.cons rfl (fun K hK => ?_) AllReadyU.nil
            rw [if_pos (by kernel_rfl)]
            refine wp_store1 40 (.tmp 59) (.tmp 53) rfl ga 2 42 _ u3 rfl rfl R.gb (by simp) HI.out.2.2 C.one ?_
            refine Shut.out hK _ _ (fun h => Bool.noConfusion (Eq.trans (Eq.symm (by kernel_rfl)) h : true = false)) ?_
            replace A := A.far R (by decide) 2 u3
            replace B := B.far R (by decide) 2 u3
            replace C := C.far R (by decide) 2 u3
            replace R := R.set2 u3
            clear hK K
            simp only [List.getElem_toArray, List.getElem_cons_succ, List.getElem_cons_zero, Act.put, List.setIfInBounds_toArray, List.set_cons_zero, List.set_cons_succ]
            refine wpAnyU_done (by kernel_rfl) ?_ _
            have hE := HEND.out _ _ _ _ R A B C
            obtain ⟨A', c', rfl, q1, q2⟩ := row_form A.own
            have cF := R.gb.cell
            clear R A B C HEND
            go_wp2_with (fail)
            go_meet
            refine ⟨_, rfl, ?_⟩
            simpa using hE
          refine AllReadyU.cons rfl (fun K hK => ?_) ?_
          · rw [if_pos (by kernel_rfl)]
            refine B.buildK R [.slice AL nL cL] 39 (.tmp 45) rfl H2.out.1 rfl H2.out.2.1 ?_
            intro u2 w35 k R B
            refine Shut.out hK _ _ (fun _ => HS.out.2.2.2.2 _ R.gb R.xb) ?_
            replace A := A.al k
            replace C := C.al k
            clear hK K k
            simp only [List.getElem_toArray, List.getElem_cons_succ, List.getElem_cons_zero, Act.put, List.setIfInBounds_toArray, List.set_cons_zero, List.set_cons_succ]
            refine wpAnyU_ready (rs := [8, 21]) (by kernel_rfl) (by simp) ?_
            refine AllReadyU.cons rfl (fun K hK => ?_) ?_
            · rw [if_pos (by kernel_rfl)]
              refine A.buildK R [.int .i64 r, .int .i64 nn] 38 (.tmp 38) rfl H1.out.1 rfl H1.out.2.1 ?_
              intro u1 w36 k R A
              refine Shut.out hK _ _ (fun _ => HS.out.2.2.2.2 _ R.gb R.xb) ?_
              replace B := B.al k
              replace C := C.al k
              clear hK K k
              simp only [List.getElem_toArray, List.getElem_cons_succ, List.getElem_cons_zero, Act.put, List.setIfInBounds_toArray, List.set_cons_zero, List.set_cons_succ]
              refine wpAnyU_ready (rs := [9, 21]) (by kernel_rfl) (by simp) ?_
              refine AllReadyU.cons rfl (fun K hK => ?_) ?_
              · rw [if_pos (by kernel_rfl)]
                refine A.appK R (.tmp 37) (.tmp 39) 38 rfl H1.out.1 ?_ ?_ (by decide) H1.out.2.2 ?_
                · rfl
                · rfl
                intro u1 w37 k R A
                refine Shut.out hK _ _ (fun _ => HS.out.2.2.2.2 _ R.gb R.xb) ?_
                replace B := B.gr k (by decide)
                replace C := C.gr k (by decide)
                clear hK K k
                simp only [List.getElem_toArray, List.getElem_cons_succ, List.getElem_cons_zero, Act.put, List.setIfInBounds_toArray, List.set_cons_zero, List.set_cons_succ]
                refine wpAnyU_ready (rs := [16, 21]) (by kernel_rfl) (by simp) ?_
                refine AllReadyU.cons rfl (fun K hK => ?_) ?_
                · rw [if_pos (by kernel_rfl)]
                  refine B.appK R (.tmp 44) (.tmp 46) 39 rfl H2.out.1 ?_ ?_ (by decide) H2.out.2.2 ?_
                  · rfl
                  · rfl
                  intro u2 w38 k R B
                  refine Shut.out hK _ _ (fun _ => HS.out.2.2.2.2 _ R.gb R.xb) ?_
                  replace A := A.gr k (by decide)
                  replace C := C.gr k (by decide)
                  clear hK K k
                  simp only [List.getElem_toArray, List.getElem_cons_succ, List.getElem_cons_zero, Act.put, List.setIfInBounds_toArray, List.set_cons_zero, List.set_cons_succ]
                  refine wpAnyU_ready (rs := [21]) (by kernel_rfl) (by simp) ?_
                  refine AllReadyU.cons rfl (fun K hK => ?_) AllReadyU.nil
                  rw [if_pos (by kernel_rfl)]
                  refine C.buildK R [.int .i64 0] 40 (.const (.int .i64 0)) rfl H3.out.1 rfl H3.out.2.1 ?_
                  intro u3 w39 k R C
                  refine Shut.out hK _ _ (fun _ => HS.out.2.2.2.2 _ R.gb R.xb) ?_
                  replace A := A.al k
                  replace B := B.al k
                  clear hK K k
                  simp only [List.getElem_toArray, List.getElem_cons_succ, List.getElem_cons_zero, Act.put, List.setIfInBounds_toArray, List.set_cons_zero, List.set_cons_succ]
                  refine wpAnyU_ready (rs := [22]) (by kernel_rfl) (by simp) ?_
                  refine AllReadyU.cons rfl (fun K hK => ?_) AllReadyU.nil
                  rw [if_pos (by kernel_rfl)]
                  refine C.appK R (.tmp 51) (.tmp 52) 40 rfl H3.out.1 ?_ ?_ (by decide) H3.out.2.2 ?_
                  · rfl
                  · rfl
                  intro u3 w40 k R C
                  refine Shut.out hK _ _ (fun _ => HS.out.2.2.2.2 _ R.gb R.xb) ?_
                  replace A := A.gr k (by decide)
                  replace B := B.gr k (by decide)
                  clear hK K k
                  simp only [List.getElem_toArray, List.getElem_cons_succ, List.getElem_cons_zero, Act.put, List.setIfInBounds_toArray, List.set_cons_zero, List.set_cons_succ]
                  refine wpAnyU_take (i := 23) (v := .pointer (some ⟨ga, 0, none⟩)) rfl (by kernel_rfl) (by kernel_rfl) (by kernel_rfl) (by decide) (fun _ _ _ h => h) (Or.inl ⟨by kernel_rfl, fun w' _ => ?_⟩) (fun _ => HS.out.2.2.2.2 _ R.gb R.xb) ?_
                  · go_simp
                  simp only [List.getElem_toArray, List.getElem_cons_succ, List.getElem_cons_zero, Act.put, List.setIfInBounds_toArray, List.set_cons_zero, List.set_cons_succ]
                  refine wpAnyU_take (i := 24) (v := .pointer (some ⟨ga, 0, none⟩)) rfl (by kernel_rfl) (by kernel_rfl) (by kernel_rfl) (by decide) (fun _ _ _ h => h) (Or.inl ⟨by kernel_rfl, fun w' _ => ?_⟩) (fun _ => HS.out.2.2.2.2 _ R.gb R.xb) ?_
                  · go_simp
                  simp only [List.getElem_toArray, List.getElem_cons_succ, List.getElem_cons_zero, Act.put, List.setIfInBounds_toArray, List.set_cons_zero, List.set_cons_succ]
                  refine wpAnyU_ready (rs := [25]) (by kernel_rfl) (by simp) ?_
                  refine AllReadyU.cons rfl (fun K hK => ?_) AllReadyU.nil
                  rw [if_pos (by kernel_rfl)]
                  refine wp_store1 38 (.tmp 55) (.tmp 40) rfl ga 0 42 _ u1 rfl rfl R.gb (by simp) HI.out.1 A.one ?_
                  refine Shut.out hK _ _ (fun h => Bool.noConfusion (Eq.trans (Eq.symm (by kernel_rfl)) h : true = false)) ?_
                  replace A := A.far R (by decide) 0 u1
                  replace B := B.far R (by decide) 0 u1
                  replace C := C.far R (by decide) 0 u1
                  replace R := R.set0 u1
                  clear hK K
                  simp only [List.getElem_toArray, List.getElem_cons_succ, List.getElem_cons_zero, Act.put, List.setIfInBounds_toArray, List.set_cons_zero, List.set_cons_succ]
                  refine wpAnyU_take (i := 26) (v := .pointer (some ⟨ga, 0, none⟩)) rfl (by kernel_rfl) (by kernel_rfl) (by kernel_rfl) (by decide) (fun _ _ _ h => h) (Or.inl ⟨by kernel_rfl, fun w' _ => ?_⟩) (fun h => Bool.noConfusion (Eq.trans (Eq.symm (by kernel_rfl)) h : true = false)) ?_
                  · go_simp
                  simp only [List.getElem_toArray, List.getElem_cons_succ, List.getElem_cons_zero, Act.put, List.setIfInBounds_toArray, List.set_cons_zero, List.set_cons_succ]
                  refine wpAnyU_take (i := 27) (v := .pointer (some ⟨ga, 1, none⟩)) rfl (by kernel_rfl) (by kernel_rfl) (by kernel_rfl) (by decide) (fun _ _ _ h => h) (Or.inl ⟨by kernel_rfl, fun w' _ => ?_⟩) (fun h => Bool.noConfusion (Eq.trans (Eq.symm (by kernel_rfl)) h : true = false)) ?_
                  · go_simp
                  simp only [List.getElem_toArray, List.getElem_cons_succ, List.getElem_cons_zero, Act.put, List.setIfInBounds_toArray, List.set_cons_zero, List.set_cons_succ]
                  refine wpAnyU_ready (rs := [28]) (by kernel_rfl) (by simp) ?_
                  refine AllReadyU.cons rfl (fun K hK => ?_) AllReadyU.nil
                  rw [if_pos (by kernel_rfl)]
                  refine wp_store1 39 (.tmp 57) (.tmp 47) rfl ga 1 42 _ u2 rfl rfl R.gb (by simp) HI.out.2.1 B.one ?_
                  refine Shut.out hK _ _ (fun h => Bool.noConfusion (Eq.trans (Eq.symm (by kernel_rfl)) h : true = false)) ?_
                  replace A := A.far R (by decide) 1 u2
                  replace B := B.far R (by decide) 1 u2
                  replace C := C.far R (by decide) 1 u2
                  replace R := R.set1 u2
                  clear hK K
                  simp only [List.getElem_toArray, List.getElem_cons_succ, List.getElem_cons_zero, Act.put, List.setIfInBounds_toArray, List.set_cons_zero, List.set_cons_succ]
                  refine wpAnyU_take (i := 29) (v := .pointer (some ⟨ga, 0, none⟩)) rfl (by kernel_rfl) (by kernel_rfl) (by kernel_rfl) (by decide) (fun _ _ _ h => h) (Or.inl ⟨by kernel_rfl, fun w' _ => ?_⟩) (fun h => Bool.noConfusion (Eq.trans (Eq.symm (by kernel_rfl)) h : true = false)) ?_
                  · go_simp
                  simp only [List.getElem_toArray, List.getElem_cons_succ, List.getElem_cons_zero, Act.put, List.setIfInBounds_toArray, List.set_cons_zero, List.set_cons_succ]
                  refine wpAnyU_take (i := 30) (v := .pointer (some ⟨ga, 2, none⟩)) rfl (by kernel_rfl) (by kernel_rfl) (by kernel_rfl) (by decide) (fun _ _ _ h => h) (Or.inl ⟨by kernel_rfl, fun w' _ => ?_⟩) (fun h => Bool.noConfusion (Eq.trans (Eq.symm (by kernel_rfl)) h : true = false)) ?_
                  · go_simp
                  simp only [List.getElem_toArray, List.getElem_cons_succ, List.getElem_cons_zero, Act.put, List.setIfInBounds_toArray, List.set_cons_zero, List.set_cons_succ]
                  refine wpAnyU_ready (rs := [31]) (by kernel_rfl) (by simp) ?_
                  refine AllReadyU.cons rfl (fun K hK => ?_) AllReadyU.nil
                  rw [if_pos (by kernel_rfl)]
                  refine wp_store1 40 (.tmp 59) (.tmp 53) rfl ga 2 42 _ u3 rfl rfl R.gb (by simp) HI.out.2.2 C.one ?_
                  refine Shut.out hK _ _ (fun h => Bool.noConfusion (Eq.trans (Eq.symm (by kernel_rfl)) h : true = false)) ?_
                  replace A := A.far R (by decide) 2 u3
                  replace B := B.far R (by decide) 2 u3
                  replace C := C.far R (by decide) 2 u3
                  replace R := R.set2 u3
                  clear hK K
                  simp only [List.getElem_toArray, List.getElem_cons_succ, List.getElem_cons_zero, Act.put, List.setIfInBounds_toArray, List.set_cons_zero, List.set_cons_succ]
                  refine wpAnyU_done (by kernel_rfl) ?_ _
                  have hE := HEND.out _ _ _ _ R A B C
                  obtain ⟨A', c', rfl, q1, q2⟩ := row_form A.own
                  have cF := R.gb.cell
                  clear R A B C HEND
                  go_wp2_with (fail)
                  go_meet
                  refine ⟨_, rfl, ?_⟩
                  simpa using hE
                refine AllReadyU.cons rfl (fun K hK => ?_) AllReadyU.nil
                rw [if_pos (by kernel_rfl)]
                refine C.buildK R [.int .i64 0] 40 (.const (.int .i64 0)) rfl H3.out.1 rfl H3.out.2.1 ?_
                intro u3 w41 k R C
                refine Shut.out hK _ _ (fun _ => HS.out.2.2.2.2 _ R.gb R.xb) ?_
                replace A := A.al k
                replace B := B.al k
                clear hK K k
                simp only [List.getElem_toArray, List.getElem_cons_succ, List.getElem_cons_zero, Act.put, List.setIfInBounds_toArray, List.set_cons_zero, List.set_cons_succ]
                refine wpAnyU_ready (rs := [16]) (by kernel_rfl) (by simp) ?_
                refine AllReadyU.cons rfl (fun K hK => ?_) AllReadyU.nil
                rw [if_pos (by kernel_rfl)]
                refine B.appK R (.tmp 44) (.tmp 46) 39 rfl H2.out.1 ?_ ?_ (by decide) H2.out.2.2 ?_
                · rfl
                · rfl
                intro u2 w42 k R B
                refine Shut.out hK _ _ (fun _ => HS.out.2.2.2.2 _ R.gb R.xb) ?_
                replace A := A.gr k (by decide)
                replace C := C.gr k (by decide)
                clear hK K k
                simp only [List.getElem_toArray, List.getElem_cons_succ, List.getElem_cons_zero, Act.put, List.setIfInBounds_toArray, List.set_cons_zero, List.set_cons_succ]
                refine wpAnyU_ready (rs := [22]) (by kernel_rfl) (by simp) ?_
                refine AllReadyU.cons rfl (fun K hK => ?_) AllReadyU.nil
                rw [if_pos (by kernel_rfl)]
                refine C.appK R (.tmp 51) (.tmp 52) 40 rfl H3.out.1 ?_ ?_ (by decide) H3.out.2.2 ?_
                · rfl
                · rfl
                intro u3 w43 k R C
                refine Shut.out hK _ _ (fun _ => HS.out.2.2.2.2 _ R.gb R.xb) ?_
                replace A := A.gr k (by decide)
                replace B := B.gr k (by decide)
                clear hK K k
                simp only [List.getElem_toArray, List.getElem_cons_succ, List.getElem_cons_zero, Act.put, List.setIfInBounds_toArray, List.set_cons_zero, List.set_cons_succ]
                refine wpAnyU_take (i := 23) (v := .pointer (some ⟨ga, 0, none⟩)) rfl (by kernel_rfl) (by kernel_rfl) (by kernel_rfl) (by decide) (fun _ _ _ h => h) (Or.inl ⟨by kernel_rfl, fun w' _ => ?_⟩) (fun _ => HS.out.2.2.2.2 _ R.gb R.xb) ?_
                · go_simp
                simp only [List.getElem_toArray, List.getElem_cons_succ, List.getElem_cons_zero, Act.put, List.setIfInBounds_toArray, List.set_cons_zero, List.set_cons_succ]
                refine wpAnyU_take (i := 24) (v := .pointer (some ⟨ga, 0, none⟩)) rfl (by kernel_rfl) (by kernel_rfl) (by kernel_rfl) (by decide) (fun _ _ _ h => h) (Or.inl ⟨by kernel_rfl, fun w' _ => ?_⟩) (fun _ => HS.out.2.2.2.2 _ R.gb R.xb) ?_
                · go_simp
                simp only [List.getElem_toArray, List.getElem_cons_succ, List.getElem_cons_zero, Act.put, List.setIfInBounds_toArray, List.set_cons_zero, List.set_cons_succ]
                refine wpAnyU_ready (rs := [25]) (by kernel_rfl) (by simp) ?_
                refine AllReadyU.cons rfl (fun K hK => ?_) AllReadyU.nil
                rw [if_pos (by kernel_rfl)]
                refine wp_store1 38 (.tmp 55) (.tmp 40) rfl ga 0 42 _ u1 rfl rfl R.gb (by simp) HI.out.1 A.one ?_
                refine Shut.out hK _ _ (fun h => Bool.noConfusion (Eq.trans (Eq.symm (by kernel_rfl)) h : true = false)) ?_
                replace A := A.far R (by decide) 0 u1
                replace B := B.far R (by decide) 0 u1
                replace C := C.far R (by decide) 0 u1
                replace R := R.set0 u1
                clear hK K
                simp only [List.getElem_toArray, List.getElem_cons_succ, List.getElem_cons_zero, Act.put, List.setIfInBounds_toArray, List.set_cons_zero, List.set_cons_succ]
                refine wpAnyU_take (i := 26) (v := .pointer (some ⟨ga, 0, none⟩)) rfl (by kernel_rfl) (by kernel_rfl) (by kernel_rfl) (by decide) (fun _ _ _ h => h) (Or.inl ⟨by kernel_rfl, fun w' _ => ?_⟩) (fun h => Bool.noConfusion (Eq.trans (Eq.symm (by kernel_rfl)) h : true = false)) ?_
                · go_simp
                simp only [List.getElem_toArray, List.getElem_cons_succ, List.getElem_cons_zero, Act.put, List.setIfInBounds_toArray, List.set_cons_zero, List.set_cons_succ]
                refine wpAnyU_take (i := 27) (v := .pointer (some ⟨ga, 1, none⟩)) rfl (by kernel_rfl) (by kernel_rfl) (by kernel_rfl) (by decide) (fun _ _ _ h => h) (Or.inl ⟨by kernel_rfl, fun w' _ => ?_⟩) (fun h => Bool.noConfusion (Eq.trans (Eq.symm (by kernel_rfl)) h : true = false)) ?_
                · go_simp
                simp only [List.getElem_toArray, List.getElem_cons_succ, List.getElem_cons_zero, Act.put, List.setIfInBounds_toArray, List.set_cons_zero, List.set_cons_succ]
                refine wpAnyU_ready (rs := [28]) (by kernel_rfl) (by simp) ?_
                refine AllReadyU.cons rfl (fun K hK => ?_) AllReadyU.nil
                rw [if_pos (by kernel_rfl)]
                refine wp_store1 39 (.tmp 57) (.tmp 47) rfl ga 1 42 _ u2 rfl rfl R.gb (by simp) HI.out.2.1 B.one ?_
                refine Shut.out hK _ _ (fun h => Bool.noConfusion (Eq.trans (Eq.symm (by kernel_rfl)) h : true = false)) ?_
                replace A := A.far R (by decide) 1 u2
                replace B := B.far R (by decide) 1 u2
                replace C := C.far R (by decide) 1 u2
                replace R := R.set1 u2
                clear hK K
                simp only [List.getElem_toArray, List.getElem_cons_succ, List.getElem_cons_zero, Act.put, List.setIfInBounds_toArray, List.set_cons_zero, List.set_cons_succ]
                refine wpAnyU_take (i := 29) (v := .pointer (some ⟨ga, 0, none⟩)) rfl (by kernel_rfl) (by kernel_rfl) (by kernel_rfl) (by decide) (fun _ _ _ h => h) (Or.inl ⟨by kernel_rfl, fun w' _ => ?_⟩) (fun h => Bool.noConfusion (Eq.trans (Eq.symm (by kernel_rfl)) h : true = false)) ?_
                · go_simp
                simp only [List.getElem_toArray, List.getElem_cons_succ, List.getElem_cons_zero, Act.put, List.setIfInBounds_toArray, List.set_cons_zero, List.set_cons_succ]
                refine wpAnyU_take (i := 30) (v := .pointer (some ⟨ga, 2, none⟩)) rfl (by kernel_rfl) (by kernel_rfl) (by kernel_rfl) (by decide) (fun _ _ _ h => h) (Or.inl ⟨by kernel_rfl, fun w' _ => ?_⟩) (fun h => Bool.noConfusion (Eq.trans (Eq.symm (by kernel_rfl)) h : true = false)) ?_
                · go_simp
                simp only [List.getElem_toArray, List.getElem_cons_succ, List.getElem_cons_zero, Act.put, List.setIfInBounds_toArray, List.set_cons_zero, List.set_cons_succ]
                refine wpAnyU_ready (rs := [31]) (by kernel_rfl) (by simp) ?_
                refine AllReadyU.cons rfl (fun K hK => ?_) AllReadyU.nil
                rw [if_pos (by kernel_rfl)]
                refine wp_store1 40 (.tmp 59) (.tmp 53) rfl ga 2 42 _ u3 rfl rfl R.gb (by simp) HI.out.2.2 C.one ?_
                refine Shut.out hK _ _ (fun h => Bool.noConfusion (Eq.trans (Eq.symm (by kernel_rfl)) h : true = false)) ?_
                replace A := A.far R (by decide) 2 u3
                replace B := B.far R (by decide) 2 u3
                replace C := C.far R (by decide) 2 u3
                replace R := R.set2 u3
                clear hK K
                simp only [List.getElem_toArray, List.getElem_cons_succ, List.getElem_cons_zero, Act.put, List.setIfInBounds_toArray, List.set_cons_zero, List.set_cons_succ]
                refine wpAnyU_done (by kernel_rfl) ?_ _
                have hE := HEND.out _ _ _ _ R A B C
                obtain ⟨A', c', rfl, q1, q2⟩ := row_form A.own
                have cF := R.gb.cell
                clear R A B C HEND
                go_wp2_with (fail)
                go_meet
                refine ⟨_, rfl, ?_⟩
                simpa using hE
              refine AllReadyU.cons rfl (fun K hK => ?_) AllReadyU.nil
              rw [if_pos (by kernel_rfl)]
              refine C.buildK R [.int .i64 0] 40 (.const (.int .i64 0)) rfl H3.out.1 rfl H3.out.2.1 ?_
              intro u3 w44 k R C
              refine Shut.out hK _ _ (fun _ => HS.out.2.2.2.2 _ R.gb R.xb) ?_
              replace A := A.al k
              replace B := B.al k
              clear hK K k
              simp only [List.getElem_toArray, List.getElem_cons_succ, List.getElem_cons_zero, Act.put, List.setIfInBounds_toArray, List.set_cons_zero, List.set_cons_succ]
              refine wpAnyU_ready (rs := [9]) (by kernel_rfl) (by simp) ?_
              refine AllReadyU.cons rfl (fun K hK => ?_) AllReadyU.nil
              rw [if_pos (by kernel_rfl)]
              refine A.appK R (.tmp 37) (.tmp 39) 38 rfl H1.out.1 ?_ ?_ (by decide) H1.out.2.2 ?_
              · rfl
              · rfl
              intro u1 w45 k R A
              refine Shut.out hK _ _ (fun _ => HS.out.2.2.2.2 _ R.gb R.xb) ?_
              replace B := B.gr k (by decide)
              replace C := C.gr k (by decide)
              clear hK K k
              simp only [List.getElem_toArray, List.getElem_cons_succ, List.getElem_cons_zero, Act.put, List.setIfInBounds_toArray, List.set_cons_zero, List.set_cons_succ]
              refine wpAnyU_ready (rs := [16]) (by kernel_rfl) (by simp) ?_
              refine AllReadyU.cons rfl (fun K hK => ?_) AllReadyU.nil
              rw [if_pos (by kernel_rfl)]
              refine B.appK R (.tmp 44) (.tmp 46) 39 rfl H2.out.1 ?_ ?_ (by decide) H2.out.2.2 ?_
              · rfl
              · rfl
              intro u2 w46 k R B
              refine Shut.out hK _ _ (fun _ => HS.out.2.2.2.2 _ R.gb R.xb) ?_
              replace A := A.gr k (by decide)
              replace C := C.gr k (by decide)
              clear hK K k
              simp only [List.getElem_toArray, List.getElem_cons_succ, List.getElem_cons_zero, Act.put, List.setIfInBounds_toArray, List.set_cons_zero, List.set_cons_succ]
              refine wpAnyU_ready (rs := [22]) (by kernel_rfl) (by simp) ?_
              refine AllReadyU.cons rfl (fun K hK => ?_) AllReadyU.nil
              rw [if_pos (by kernel_rfl)]
              refine C.appK R (.tmp 51) (.tmp 52) 40 rfl H3.out.1 ?_ ?_ (by decide) H3.out.2.2 ?_
              · rfl
              · rfl
              intro u3 w47 k R C
              refine Shut.out hK _ _ (fun _ => HS.out.2.2.2.2 _ R.gb R.xb) ?_
              replace A := A.gr k (by decide)
              replace B := B.gr k (by decide)
              clear hK K k
              simp only [List.getElem_toArray, List.getElem_cons_succ, List.getElem_cons_zero, Act.put, List.setIfInBounds_toArray, List.set_cons_zero, List.set_cons_succ]
              refine wpAnyU_take (i := 23) (v := .pointer (some ⟨ga, 0, none⟩)) rfl (by kernel_rfl) (by kernel_rfl) (by kernel_rfl) (by decide) (fun _ _ _ h => h) (Or.inl ⟨by kernel_rfl, fun w' _ => ?_⟩) (fun _ => HS.out.2.2.2.2 _ R.gb R.xb) ?_
              · go_simp
              simp only [List.getElem_toArray, List.getElem_cons_succ, List.getElem_cons_zero, Act.put, List.setIfInBounds_toArray, List.set_cons_zero, List.set_cons_succ]
              refine wpAnyU_take (i := 24) (v := .pointer (some ⟨ga, 0, none⟩)) rfl (by kernel_rfl) (by kernel_rfl) (by kernel_rfl) (by decide) (fun _ _ _ h => h) (Or.inl ⟨by kernel_rfl, fun w' _ => ?_⟩) (fun _ => HS.out.2.2.2.2 _ R.gb R.xb) ?_
              · go_simp
              simp only [List.getElem_toArray, List.getElem_cons_succ, List.getElem_cons_zero, Act.put, List.setIfInBounds_toArray, List.set_cons_zero, List.set_cons_succ]
              refine wpAnyU_ready (rs := [25]) (by kernel_rfl) (by simp) ?_
              refine AllReadyU.cons rfl (fun K hK => ?_) AllReadyU.nil
              rw [if_pos (by kernel_rfl)]
              refine wp_store1 38 (.tmp 55) (.tmp 40) rfl ga 0 42 _ u1 rfl rfl R.gb (by simp) HI.out.1 A.one ?_
              refine Shut.out hK _ _ (fun h => Bool.noConfusion (Eq.trans (Eq.symm (by kernel_rfl)) h : true = false)) ?_
              replace A := A.far R (by decide) 0 u1
              replace B := B.far R (by decide) 0 u1
              replace C := C.far R (by decide) 0 u1
              replace R := R.set0 u1
              clear hK K
              simp only [List.getElem_toArray, List.getElem_cons_succ, List.getElem_cons_zero, Act.put, List.setIfInBounds_toArray, List.set_cons_zero, List.set_cons_succ]
              refine wpAnyU_take (i := 26) (v := .pointer (some ⟨ga, 0, none⟩)) rfl (by kernel_rfl) (by kernel_rfl) (by kernel_rfl) (by decide) (fun _ _ _ h => h) (Or.inl ⟨by kernel_rfl, fun w' _ => ?_⟩) (fun h => Bool.noConfusion (Eq.trans (Eq.symm (by kernel_rfl)) h : true = false)) ?_
              · go_simp
              simp only [List.getElem_toArray, List.getElem_cons_succ, List.getElem_cons_zero, Act.put, List.setIfInBounds_toArray, List.set_cons_zero, List.set_cons_succ]
              refine wpAnyU_take (i := 27) (v := .pointer (some ⟨ga, 1, none⟩)) rfl (by kernel_rfl) (by kernel_rfl) (by kernel_rfl) (by decide) (fun _ _ _ h => h) (Or.inl ⟨by kernel_rfl, fun w' _ => ?_⟩) (fun h => Bool.noConfusion (Eq.trans (Eq.symm (by kernel_rfl)) h : true = false)) ?_
              · go_simp
              simp only [List.getElem_toArray, List.getElem_cons_succ, List.getElem_cons_zero, Act.put, List.setIfInBounds_toArray, List.set_cons_zero, List.set_cons_succ]
              refine wpAnyU_ready (rs := [28]) (by kernel_rfl) (by simp) ?_
              refine AllReadyU.cons rfl (fun K hK => ?_) AllReadyU.nil
              rw [if_pos (by kernel_rfl)]
              refine wp_store1 39 (.tmp 57) (.tmp 47) rfl ga 1 42 _ u2 rfl rfl R.gb (by simp) HI.out.2.1 B.one ?_
              refine Shut.out hK _ _ (fun h => Bool.noConfusion (Eq.trans (Eq.symm (by kernel_rfl)) h : true = false)) ?_
              replace A := A.far R (by decide) 1 u2
              replace B := B.far R (by decide) 1 u2
              replace C := C.far R (by decide) 1 u2
              replace R := R.set1 u2
              clear hK K
              simp only [List.getElem_toArray, List.getElem_cons_succ, List.getElem_cons_zero, Act.put, List.setIfInBounds_toArray, List.set_cons_zero, List.set_cons_succ]
              refine wpAnyU_take (i := 29) (v := .pointer (some ⟨ga, 0, none⟩)) rfl (by kernel_rfl) (by kernel_rfl) (by kernel_rfl) (by decide) (fun _ _ _ h => h) (Or.inl ⟨by kernel_rfl, fun w' _ => ?_⟩) (fun h => Bool.noConfusion (Eq.trans (Eq.symm (by kernel_rfl)) h : true = false)) ?_
              · go_simp
              simp only [List.getElem_toArray, List.getElem_cons_succ, List.getElem_cons_zero, Act.put, List.setIfInBounds_toArray, List.set_cons_zero, List.set_cons_succ]
              refine wpAnyU_take (i := 30) (v := .pointer (some ⟨ga, 2, none⟩)) rfl (by kernel_rfl) (by kernel_rfl) (by kernel_rfl) (by decide) (fun _ _ _ h => h) (Or.inl ⟨by kernel_rfl, fun w' _ => ?_⟩) (fun h => Bool.noConfusion (Eq.trans (Eq.symm (by kernel_rfl)) h : true = false)) ?_
              · go_simp
              simp only [List.getElem_toArray, List.getElem_cons_succ, List.getElem_cons_zero, Act.put, List.setIfInBounds_toArray, List.set_cons_zero, List.set_cons_succ]
              refine wpAnyU_ready (rs := [31]) (by kernel_rfl) (by simp) ?_
              refine AllReadyU.cons rfl (fun K hK => ?_) AllReadyU.nil
              rw [if_pos (by kernel_rfl)]
              refine wp_store1 40 (.tmp 59) (.tmp 53) rfl ga 2 42 _ u3 rfl rfl R.gb (by simp) HI.out.2.2 C.one ?_
              refine Shut.out hK _ _ (fun h => Bool.noConfusion (Eq.trans (Eq.symm (by kernel_rfl)) h : true = false)) ?_
              replace A := A.far R (by decide) 2 u3
              replace B := B.far R (by decide) 2 u3
              replace C := C.far R (by decide) 2 u3
              replace R := R.set2 u3
              clear hK K
              simp only [List.getElem_toArray, List.getElem_cons_succ, List.getElem_cons_zero, Act.put, List.setIfInBounds_toArray, List.set_cons_zero, List.set_cons_succ]
              refine wpAnyU_done (by kernel_rfl) ?_ _
              have hE := HEND.out _ _ _ _ R A B C
              obtain ⟨A', c', rfl, q1, q2⟩ := row_form A.own
              have cF := R.gb.cell
              clear R A B C HEND
              go_wp2_with (fail)
              go_meet
              refine ⟨_, rfl, ?_⟩
              simpa using hE
            refine AllReadyU.cons rfl (fun K hK => ?_) AllReadyU.nil
            rw [if_pos (by kernel_rfl)]
            refine C.buildK R [.int .i64 0] 40 (.const (.int .i64 0)) rfl H3.out.1 rfl H3.out.2.1 ?_
            intro u3 w48 k R C
            refine Shut.out hK _ _ (fun _ => HS.out.2.2.2.2 _ R.gb R.xb) ?_
            replace A := A.al k
            replace B := B.al k
            clear hK K k
            simp only [List.getElem_toArray, List.getElem_cons_succ, List.getElem_cons_zero, Act.put, List.setIfInBounds_toArray, List.set_cons_zero, List.set_cons_succ]
            refine wpAnyU_ready (rs := [8]) (by kernel_rfl) (by simp) ?_
            refine AllReadyU.cons rfl (fun K hK => ?_) AllReadyU.nil
            rw [if_pos (by kernel_rfl)]
            refine A.buildK R [.int .i64 r, .int .i64 nn] 38 (.tmp 38) rfl H1.out.1 rfl H1.out.2.1 ?_
            intro u1 w49 k R A
            refine Shut.out hK _ _ (fun _ => HS.out.2.2.2.2 _ R.gb R.xb) ?_
            replace B := B.al k
            replace C := C.al k
            clear hK K k
            simp only [List.getElem_toArray, List.getElem_cons_succ, List.getElem_cons_zero, Act.put, List.setIfInBounds_toArray, List.set_cons_zero, List.set_cons_succ]
            refine wpAnyU_ready (rs := [9]) (by kernel_rfl) (by simp) ?_
            refine AllReadyU.cons rfl (fun K hK => ?_) AllReadyU.nil
            rw [if_pos (by kernel_rfl)]
            refine A.appK R (.tmp 37) (.tmp 39) 38 rfl H1.out.1 ?_ ?_ (by decide) H1.out.2.2 ?_
            · rfl
            · rfl
            intro u1 w50 k R A
            refine Shut.out hK _ _ (fun _ => HS.out.2.2.2.2 _ R.gb R.xb) ?_
            replace B := B.gr k (by decide)
            replace C := C.gr k (by decide)
            clear hK K k
            simp only [List.getElem_toArray, List.getElem_cons_succ, List.getElem_cons_zero, Act.put, List.setIfInBounds_toArray, List.set_cons_zero, List.set_cons_succ]
            refine wpAnyU_ready (rs := [16]) (by kernel_rfl) (by simp) ?_
            refine AllReadyU.cons rfl (fun K hK => ?_) AllReadyU.nil
            rw [if_pos (by kernel_rfl)]
            refine B.appK R (.tmp 44) (.tmp 46) 39 rfl H2.out.1 ?_ ?_ (by decide) H2.out.2.2 ?_
            · rfl
            · rfl
            intro u2 w51 k R B
            refine Shut.out hK _ _ (fun _ => HS.out.2.2.2.2 _ R.gb R.xb) ?_
            replace A := A.gr k (by decide)
            replace C := C.gr k (by decide)
            clear hK K k
            simp only [List.getElem_toArray, List.getElem_cons_succ, List.getElem_cons_zero, Act.put, List.setIfInBounds_toArray, List.set_cons_zero, List.set_cons_succ]
            refine wpAnyU_ready (rs := [22]) (by kernel_rfl) (by simp) ?_
            refine AllReadyU.cons rfl (fun K hK => ?_) AllReadyU.nil
            rw [if_pos (by kernel_rfl)]
            refine C.appK R (.tmp 51) (.tmp 52) 40 rfl H3.out.1 ?_ ?_ (by decide) H3.out.2.2 ?_
            · rfl
            · rfl
            intro u3 w52 k R C
            refine Shut.out hK _ _ (fun _ => HS.out.2.2.2.2 _ R.gb R.xb) ?_
            replace A := A.gr k (by decide)
            replace B := B.gr k (by decide)
            clear hK K k
            simp only [List.getElem_toArray, List.getElem_cons_succ, List.getElem_cons_zero, Act.put, List.setIfInBounds_toArray, List.set_cons_zero, List.set_cons_succ]
            refine wpAnyU_take (i := 23) (v := .pointer (some ⟨ga, 0, none⟩)) rfl (by kernel_rfl) (by kernel_rfl) (by kernel_rfl) (by decide) (fun _ _ _ h => h) (Or.inl ⟨by kernel_rfl, fun w' _ => ?_⟩) (fun _ => HS.out.2.2.2.2 _ R.gb R.xb) ?_
            · go_simp
            simp only [List.getElem_toArray, List.getElem_cons_succ, List.getElem_cons_zero, Act.put, List.setIfInBounds_toArray, List.set_cons_zero, List.set_cons_succ]
            refine wpAnyU_take (i := 24) (v := .pointer (some ⟨ga, 0, none⟩)) rfl (by kernel_rfl) (by kernel_rfl) (by kernel_rfl) (by decide) (fun _ _ _ h => h) (Or.inl ⟨by kernel_rfl, fun w' _ => ?_⟩) (fun _ => HS.out.2.2.2.2 _ R.gb R.xb) ?_
            · go_simp
            simp only [List.getElem_toArray, List.getElem_cons_succ, List.getElem_cons_zero, Act.put, List.setIfInBounds_toArray, List.set_cons_zero, List.set_cons_succ]
            refine wpAnyU_ready (rs := [25]) (by kernel_rfl) (by simp) ?_
            refine AllReadyU.cons rfl (fun K hK => ?_) AllReadyU.nil
            rw [if_pos (by kernel_rfl)]
            refine wp_store1 38 (.tmp 55) (.tmp 40) rfl ga 0 42 _ u1 rfl rfl R.gb (by simp) HI.out.1 A.one ?_
            refine Shut.out hK _ _ (fun h => Bool.noConfusion (Eq.trans (Eq.symm (by kernel_rfl)) h : true = false)) ?_
            replace A := A.far R (by decide) 0 u1
            replace B := B.far R (by decide) 0 u1
            replace C := C.far R (by decide) 0 u1
            replace R := R.set0 u1
            clear hK K
            simp only [List.getElem_toArray, List.getElem_cons_succ, List.getElem_cons_zero, Act.put, List.setIfInBounds_toArray, List.set_cons_zero, List.set_cons_succ]
            refine wpAnyU_take (i := 26) (v := .pointer (some ⟨ga, 0, none⟩)) rfl (by kernel_rfl) (by kernel_rfl) (by kernel_rfl) (by decide) (fun _ _ _ h => h) (Or.inl ⟨by kernel_rfl, fun w' _ => ?_⟩) (fun h => Bool.noConfusion (Eq.trans (Eq.symm (by kernel_rfl)) h : true = false)) ?_
            · go_simp
            simp only [List.getElem_toArray, List.getElem_cons_succ, List.getElem_cons_zero, Act.put, List.setIfInBounds_toArray, List.set_cons_zero, List.set_cons_succ]
            refine wpAnyU_take (i := 27) (v := .pointer (some ⟨ga, 1, none⟩)) rfl (by kernel_rfl) (by kernel_rfl) (by kernel_rfl) (by decide) (fun _ _ _ h => h) (Or.inl ⟨by kernel_rfl, fun w' _ => ?_⟩) (fun h => Bool.noConfusion (Eq.trans (Eq.symm (by kernel_rfl)) h : true = false)) ?_
            · go_simp
            simp only [List.getElem_toArray, List.getElem_cons_succ, List.getElem_cons_zero, Act.put, List.setIfInBounds_toArray, List.set_cons_zero, List.set_cons_succ]
            refine wpAnyU_ready (rs := [28]) (by kernel_rfl) (by simp) ?_
            refine AllReadyU.cons rfl (fun K hK => ?_) AllReadyU.nil
            rw [if_pos (by kernel_rfl)]
            refine wp_store1 39 (.tmp 57) (.tmp 47) rfl ga 1 42 _ u2 rfl rfl R.gb (by simp) HI.out.2.1 B.one ?_
            refine Shut.out hK _ _ (fun h => Bool.noConfusion (Eq.trans (Eq.symm (by kernel_rfl)) h : true = false)) ?_
            replace A := A.far R (by decide) 1 u2
            replace B := B.far R (by decide) 1 u2
            replace C := C.far R (by decide) 1 u2
            replace R := R.set1 u2
            clear hK K
            simp only [List.getElem_toArray, List.getElem_cons_succ, List.getElem_cons_zero, Act.put, List.setIfInBounds_toArray, List.set_cons_zero, List.set_cons_succ]
            refine wpAnyU_take (i := 29) (v := .pointer (some ⟨ga, 0, none⟩)) rfl (by kernel_rfl) (by kernel_rfl) (by kernel_rfl) (by decide) (fun _ _ _ h => h) (Or.inl ⟨by kernel_rfl, fun w' _ => ?_⟩) (fun h => Bool.noConfusion (Eq.trans (Eq.symm (by kernel_rfl)) h : true = false)) ?_
            · go_simp
            simp only [List.getElem_toArray, List.getElem_cons_succ, List.getElem_cons_zero, Act.put, List.setIfInBounds_toArray, List.set_cons_zero, List.set_cons_succ]
            refine wpAnyU_take (i := 30) (v := .pointer (some ⟨ga, 2, none⟩)) rfl (by kernel_rfl) (by kernel_rfl) (by kernel_rfl) (by decide) (fun _ _ _ h => h) (Or.inl ⟨by kernel_rfl, fun w' _ => ?_⟩) (fun h => Bool.noConfusion (Eq.trans (Eq.symm (by kernel_rfl)) h : true = false)) ?_
            · go_simp
            simp only [List.getElem_toArray, List.getElem_cons_succ, List.getElem_cons_zero, Act.put, List.setIfInBounds_toArray, List.set_cons_zero, List.set_cons_succ]
            refine wpAnyU_ready (rs := [31]) (by kernel_rfl) (by simp) ?_
            refine AllReadyU.cons rfl (fun K hK => ?_) AllReadyU.nil
            rw [if_pos (by kernel_rfl)]
            refine wp_store1 40 (.tmp 59) (.tmp 53) rfl ga 2 42 _ u3 rfl rfl R.gb (by simp) HI.out.2.2 C.one ?_
            refine Shut.out hK _ _ (fun h => Bool.noConfusion (Eq.trans (Eq.symm (by kernel_rfl)) h : true = false)) ?_
            replace A := A.far R (by decide) 2 u3
            replace B := B.far R (by decide) 2 u3
            replace C := C.far R (by decide) 2 u3
            replace R := R.set2 u3
            clear hK K
            simp only [List.getElem_toArray, List.getElem_cons_succ, List.getElem_cons_zero, Act.put, List.setIfInBounds_toArray, List.set_cons_zero, List.set_cons_succ]
            refine wpAnyU_done (by kernel_rfl) ?_ _
            have hE := HEND.out _ _ _ _ R A B C
            obtain ⟨A', c', rfl, q1, q2⟩ := row_form A.own
            have cF := R.gb.cell
            clear R A B C HEND
            go_wp2_with (fail)
            go_meet
            refine ⟨_, rfl, ?_⟩
            simpa using hE
          refine AllReadyU.cons rfl (fun K hK => ?_) AllReadyU.nil
          rw [if_pos (by kernel_rfl)]
          refine C.buildK R [.int .i64 0] 40 (.const (.int .i64 0)) rfl H3.out.1 rfl H3.out.2.1 ?_
          intro u3 w53 k R C
          refine Shut.out hK _ _ (fun _ => HS.out.2.2.2.2 _ R.gb R.xb) ?_
          replace A := A.al k
          replace B := B.al k
          clear hK K k
          simp only [List.getElem_toArray, List.getElem_cons_succ, List.getElem_cons_zero, Act.put, List.setIfInBounds_toArray, List.set_cons_zero, List.set_cons_succ]
          refine wpAnyU_ready (rs := [8, 15]) (by kernel_rfl) (by simp) ?_
          refine AllReadyU.cons rfl (fun K hK => ?_) ?_
          · rw [if_pos (by kernel_rfl)]
            refine A.buildK R [.int .i64 r, .int .i64 nn] 38 (.tmp 38) rfl H1.out.1 rfl H1.out.2.1 ?_
            intro u1 w54 k R A
            refine Shut.out hK _ _ (fun _ => HS.out.2.2.2.2 _ R.gb R.xb) ?_
            replace B := B.al k
            replace C := C.al k
            clear hK K k
            simp only [List.getElem_toArray, List.getElem_cons_succ, List.getElem_cons_zero, Act.put, List.setIfInBounds_toArray, List.set_cons_zero, List.set_cons_succ]
            refine wpAnyU_ready (rs := [9, 15]) (by kernel_rfl) (by simp) ?_
            refine AllReadyU.cons rfl (fun K hK => ?_) ?_
            · rw [if_pos (by kernel_rfl)]
              refine A.appK R (.tmp 37) (.tmp 39) 38 rfl H1.out.1 ?_ ?_ (by decide) H1.out.2.2 ?_
              · rfl
              · rfl
              intro u1 w55 k R A
              refine Shut.out hK _ _ (fun _ => HS.out.2.2.2.2 _ R.gb R.xb) ?_
              replace B := B.gr k (by decide)
              replace C := C.gr k (by decide)
              clear hK K k
              simp only [List.getElem_toArray, List.getElem_cons_succ, List.getElem_cons_zero, Act.put, List.setIfInBounds_toArray, List.set_cons_zero, List.set_cons_succ]
              refine wpAnyU_ready (rs := [15]) (by kernel_rfl) (by simp) ?_
              refine AllReadyU.cons rfl (fun K hK => ?_) AllReadyU.nil
              rw [if_pos (by kernel_rfl)]
              refine B.buildK R [.slice AL nL cL] 39 (.tmp 45) rfl H2.out.1 rfl H2.out.2.1 ?_
              intro u2 w56 k R B
              refine Shut.out hK _ _ (fun _ => HS.out.2.2.2.2 _ R.gb R.xb) ?_
              replace A := A.al k
              replace C := C.al k
              clear hK K k
              simp only [List.getElem_toArray, List.getElem_cons_succ, List.getElem_cons_zero, Act.put, List.setIfInBounds_toArray, List.set_cons_zero, List.set_cons_succ]
              refine wpAnyU_ready (rs := [16]) (by kernel_rfl) (by simp) ?_
              refine AllReadyU.cons rfl (fun K hK => ?_) AllReadyU.nil
              rw [if_pos (by kernel_rfl)]
              refine B.appK R (.tmp 44) (.tmp 46) 39 rfl H2.out.1 ?_ ?_ (by decide) H2.out.2.2 ?_
              · rfl
              · rfl
              intro u2 w57 k R B
              refine Shut.out hK _ _ (fun _ => HS.out.2.2.2.2 _ R.gb R.xb) ?_
              replace A := A.gr k (by decide)
              replace C := C.gr k (by decide)
              clear hK K k
              simp only [List.getElem_toArray, List.getElem_cons_succ, List.getElem_cons_zero, Act.put, List.setIfInBounds_toArray, List.set_cons_zero, List.set_cons_succ]
              refine wpAnyU_ready (rs := [22]) (by kernel_rfl) (by simp) ?_
              refine AllReadyU.cons rfl (fun K hK => ?_) AllReadyU.nil
              rw [if_pos (by kernel_rfl)]
              refine C.appK R (.tmp 51) (.tmp 52) 40 rfl H3.out.1 ?_ ?_ (by decide) H3.out.2.2 ?_
              · rfl
              · rfl
              intro u3 w58 k R C
              refine Shut.out hK _ _ (fun _ => HS.out.2.2.2.2 _ R.gb R.xb) ?_
              replace A := A.gr k (by decide)
              replace B := B.gr k (by decide)
              clear hK K k
              simp only [List.getElem_toArray, List.getElem_cons_succ, List.getElem_cons_zero, Act.put, List.setIfInBounds_toArray, List.set_cons_zero, List.set_cons_succ]
              refine wpAnyU_take (i := 23) (v := .pointer (some ⟨ga, 0, none⟩)) rfl (by kernel_rfl) (by kernel_rfl) (by kernel_rfl) (by decide) (fun _ _ _ h => h) (Or.inl ⟨by kernel_rfl, fun w' _ => ?_⟩) (fun _ => HS.out.2.2.2.2 _ R.gb R.xb) ?_
              · go_simp
              simp only [List.getElem_toArray, List.getElem_cons_succ, List.getElem_cons_zero, Act.put, List.setIfInBounds_toArray, List.set_cons_zero, List.set_cons_succ]
              refine wpAnyU_take (i := 24) (v := .pointer (some ⟨ga, 0, none⟩)) rfl (by kernel_rfl) (by kernel_rfl) (by kernel_rfl) (by decide) (fun _ _ _ h => h) (Or.inl ⟨by kernel_rfl, fun w' _ => ?_⟩) (fun _ => HS.out.2.2.2.2 _ R.gb R.xb) ?_
              · go_simp
              simp only [List.getElem_toArray, List.getElem_cons_succ, List.getElem_cons_zero, Act.put, List.setIfInBounds_toArray, List.set_cons_zero, List.set_cons_succ]
              refine wpAnyU_ready (rs := [25]) (by kernel_rfl) (by simp) ?_
              refine AllReadyU.cons rfl (fun K hK => ?_) AllReadyU.nil
              rw [if_pos (by kernel_rfl)]
              refine wp_store1 38 (.tmp 55) (.tmp 40) rfl ga 0 42 _ u1 rfl rfl R.gb (by simp) HI.out.1 A.one ?_
              refine Shut.out hK _ _ (fun h => Bool.noConfusion (Eq.trans (Eq.symm (by kernel_rfl)) h : true = false)) ?_
              replace A := A.far R (by decide) 0 u1
              replace B := B.far R (by decide) 0 u1
              replace C := C.far R (by decide) 0 u1
              replace R := R.set0 u1
              clear hK K
              simp only [List.getElem_toArray, List.getElem_cons_succ, List.getElem_cons_zero, Act.put, List.setIfInBounds_toArray, List.set_cons_zero, List.set_cons_succ]
              refine wpAnyU_take (i := 26) (v := .pointer (some ⟨ga, 0, none⟩)) rfl (by kernel_rfl) (by kernel_rfl) (by kernel_rfl) (by decide) (fun _ _ _ h => h) (Or.inl ⟨by kernel_rfl, fun w' _ => ?_⟩) (fun h => Bool.noConfusion (Eq.trans (Eq.symm (by kernel_rfl)) h : true = false)) ?_
              · go_simp
              simp only [List.getElem_toArray, List.getElem_cons_succ, List.getElem_cons_zero, Act.put, List.setIfInBounds_toArray, List.set_cons_zero, List.set_cons_succ]
              refine wpAnyU_take (i := 27) (v := .pointer (some ⟨ga, 1, none⟩)) rfl (by kernel_rfl) (by kernel_rfl) (by kernel_rfl) (by decide) (fun _ _ _ h => h) (Or.inl ⟨by kernel_rfl, fun w' _ => ?_⟩) (fun h => Bool.noConfusion (Eq.trans (Eq.symm (by kernel_rfl)) h : true = false)) ?_
              · go_simp
              simp only [List.getElem_toArray, List.getElem_cons_succ, List.getElem_cons_zero, Act.put, List.setIfInBounds_toArray, List.set_cons_zero, List.set_cons_succ]
              refine wpAnyU_ready (rs := [28]) (by kernel_rfl) (by simp) ?_
              refine AllReadyU.cons rfl (fun K hK => ?_) AllReadyU.nil
              rw [if_pos (by kernel_rfl)]
              refine wp_store1 39 (.tmp 57) (.tmp 47) rfl ga 1 42 _ u2 rfl rfl R.gb (by simp) HI.out.2.1 B.one ?_
              refine Shut.out hK _ _ (fun h => Bool.noConfusion (Eq.trans (Eq.symm (by kernel_rfl)) h : true = false)) ?_
              replace A := A.far R (by decide) 1 u2
              replace B := B.far R (by decide) 1 u2
              replace C := C.far R (by decide) 1 u2
              replace R := R.set1 u2
              clear hK K
              simp only [List.getElem_toArray, List.getElem_cons_succ, List.getElem_cons_zero, Act.put, List.setIfInBounds_toArray, List.set_cons_zero, List.set_cons_succ]
              refine wpAnyU_take (i := 29) (v := .pointer (some ⟨ga, 0, none⟩)) rfl (by kernel_rfl) (by kernel_rfl) (by kernel_rfl) (by decide) (fun _ _ _ h => h) (Or.inl ⟨by kernel_rfl, fun w' _ => ?_⟩) (fun h => Bool.noConfusion (Eq.trans (Eq.symm (by kernel_rfl)) h : true = false)) ?_
              · go_simp
              simp only [List.getElem_toArray, List.getElem_cons_succ, List.getElem_cons_zero, Act.put, List.setIfInBounds_toArray, List.set_cons_zero, List.set_cons_succ]
              refine wpAnyU_take (i := 30) (v := .pointer (some ⟨ga, 2, none⟩)) rfl (by kernel_rfl) (by kernel_rfl) (by kernel_rfl) (by decide) (fun _ _ _ h => h) (Or.inl ⟨by kernel_rfl, fun w' _ => ?_⟩) (fun h => Bool.noConfusion (Eq.trans (Eq.symm (by kernel_rfl)) h : true = false)) ?_
              · go_simp
              simp only [List.getElem_toArray, List.getElem_cons_succ, List.getElem_cons_zero, Act.put, List.setIfInBounds_toArray, List.set_cons_zero, List.set_cons_succ]
              refine wpAnyU_ready (rs := [31]) (by kernel_rfl) (by simp) ?_
              refine AllReadyU.cons rfl (fun K hK => ?_) AllReadyU.nil
              rw [if_pos (by kernel_rfl)]
              refine wp_store1 40 (.tmp 59) (.tmp 53) rfl ga 2 42 _ u3 rfl rfl R.gb (by simp) HI.out.2.2 C.one ?_
              refine Shut.out hK _ _ (fun h => Bool.noConfusion (Eq.trans (Eq.symm (by kernel_rfl)) h : true = false)) ?_
              replace A := A.far R (by decide) 2 u3
              replace B := B.far R (by decide) 2 u3
              replace C := C.far R (by decide) 2 u3
              replace R := R.set2 u3
              clear hK K
              simp only [List.getElem_toArray, List.getElem_cons_succ, List.getElem_cons_zero, Act.put, List.setIfInBounds_toArray, List.set_cons_zero, List.set_cons_succ]
              refine wpAnyU_done (by kernel_rfl) ?_ _
              have hE := HEND.out _ _ _ _ R A B C
              obtain ⟨A', c', rfl, q1, q2⟩ := row_form A.own
              have cF := R.gb.cell
              clear R A B C HEND
              go_wp2_with (fail)
              go_meet
              refine ⟨_, rfl, ?_⟩
              simpa using hE
            refine AllReadyU.cons rfl (fun K hK => ?_) AllReadyU.nil
            rw [if_pos (by kernel_rfl)]
            refine B.buildK R [.slice AL nL cL] 39 (.tmp 45) rfl H2.out.1 rfl H2.out.2.1 ?_
            intro u2 w59 k R B
            refine Shut.out hK _ _ (fun _ => HS.out.2.2.2.2 _ R.gb R.xb) ?_
            replace A := A.al k
            replace C := C.al k
            clear hK K k
            simp only [List.getElem_toArray, List.getElem_cons_succ, List.getElem_cons_zero, Act.put, List.setIfInBounds_toArray, List.set_cons_zero, List.set_cons_succ]
            refine wpAnyU_ready (rs := [9]) (by kernel_rfl) (by simp) ?_
            refine AllReadyU.cons rfl (fun K hK => ?_) AllReadyU.nil
            rw [if_pos (by kernel_rfl)]
            refine A.appK R (.tmp 37) (.tmp 39) 38 rfl H1.out.1 ?_ ?_ (by decide) H1.out.2.2 ?_
            · rfl
            · rfl
            intro u1 w60 k R A
            refine Shut.out hK _ _ (fun _ => HS.out.2.2.2.2 _ R.gb R.xb) ?_
            replace B := B.gr k (by decide)
            replace C := C.gr k (by decide)
            clear hK K k
            simp only [List.getElem_toArray, List.getElem_cons_succ, List.getElem_cons_zero, Act.put, List.setIfInBounds_toArray, List.set_cons_zero, List.set_cons_succ]
            refine wpAnyU_ready (rs := [16]) (by kernel_rfl) (by simp) ?_
            refine AllReadyU.cons rfl (fun K hK => ?_) AllReadyU.nil
            rw [if_pos (by kernel_rfl)]
            refine B.appK R (.tmp 44) (.tmp 46) 39 rfl H2.out.1 ?_ ?_ (by decide) H2.out.2.2 ?_
            · rfl
            · rfl
            intro u2 w61 k R B
            refine Shut.out hK _ _ (fun _ => HS.out.2.2.2.2 _ R.gb R.xb) ?_
            replace A := A.gr k (by decide)
            replace C := C.gr k (by decide)
            clear hK K k
            simp only [List.getElem_toArray, List.getElem_cons_succ, List.getElem_cons_zero, Act.put, List.setIfInBounds_toArray, List.set_cons_zero, List.set_cons_succ]
            refine wpAnyU_ready (rs := [22]) (by kernel_rfl) (by simp) ?_
            refine AllReadyU.cons rfl (fun K hK => ?_) AllReadyU.nil
            rw [if_pos (by kernel_rfl)]
            refine C.appK R (.tmp 51) (.tmp 52) 40 rfl H3.out.1 ?_ ?_ (by decide) H3.out.2.2 ?_
            · rfl
            · rfl
            intro u3 w62 k R C
            refine Shut.out hK _ _ (fun _ => HS.out.2.2.2.2 _ R.gb R.xb) ?_
            replace A := A.gr k (by decide)
            replace B := B.gr k (by decide)
            clear hK K k
            simp only [List.getElem_toArray, List.getElem_cons_succ, List.getElem_cons_zero, Act.put, List.setIfInBounds_toArray, List.set_cons_zero, List.set_cons_succ]
            refine wpAnyU_take (i := 23) (v := .pointer (some ⟨ga, 0, none⟩)) rfl (by kernel_rfl) (by kernel_rfl) (by kernel_rfl) (by decide) (fun _ _ _ h => h) (Or.inl ⟨by kernel_rfl, fun w' _ => ?_⟩) (fun _ => HS.out.2.2.2.2 _ R.gb R.xb) ?_
            · go_simp
            simp only [List.getElem_toArray, List.getElem_cons_succ, List.getElem_cons_zero, Act.put, List.setIfInBounds_toArray, List.set_cons_zero, List.set_cons_succ]
            refine wpAnyU_take (i := 24) (v := .pointer (some ⟨ga, 0, none⟩)) rfl (by kernel_rfl) (by kernel_rfl) (by kernel_rfl) (by decide) (fun _ _ _ h => h) (Or.inl ⟨by kernel_rfl, fun w' _ => ?_⟩) (fun _ => HS.out.2.2.2.2 _ R.gb R.xb) ?_
            · go_simp
            simp only [List.getElem_toArray, List.getElem_cons_succ, List.getElem_cons_zero, Act.put, List.setIfInBounds_toArray, List.set_cons_zero, List.set_cons_succ]
            refine wpAnyU_ready (rs := [25]) (by kernel_rfl) (by simp) ?_
            refine AllReadyU.cons rfl (fun K hK => ?_) AllReadyU.nil
            rw [if_pos (by kernel_rfl)]
            refine wp_store1 38 (.tmp 55) (.tmp 40) rfl ga 0 42 _ u1 rfl rfl R.gb (by simp) HI.out.1 A.one ?_
            refine Shut.out hK _ _ (fun h => Bool.noConfusion (Eq.trans (Eq.symm (by kernel_rfl)) h : true = false)) ?_
            replace A := A.far R (by decide) 0 u1
            replace B := B.far R (by decide) 0 u1
            replace C := C.far R (by decide) 0 u1
            replace R := R.set0 u1
            clear hK K
            simp only [List.getElem_toArray, List.getElem_cons_succ, List.getElem_cons_zero, Act.put, List.setIfInBounds_toArray, List.set_cons_zero, List.set_cons_succ]
            refine wpAnyU_take (i := 26) (v := .pointer (some ⟨ga, 0, none⟩)) rfl (by kernel_rfl) (by kernel_rfl) (by kernel_rfl) (by decide) (fun _ _ _ h => h) (Or.inl ⟨by kernel_rfl, fun w' _ => ?_⟩) (fun h => Bool.noConfusion (Eq.trans (Eq.symm (by kernel_rfl)) h : true = false)) ?_
            · go_simp
            simp only [List.getElem_toArray, List.getElem_cons_succ, List.getElem_cons_zero, Act.put, List.setIfInBounds_toArray, List.set_cons_zero, List.set_cons_succ]
            refine wpAnyU_take (i := 27) (v := .pointer (some ⟨ga, 1, none⟩)) rfl (by kernel_rfl) (by kernel_rfl) (by kernel_rfl) (by decide) (fun _ _ _ h => h) (Or.inl ⟨by kernel_rfl, fun w' _ => ?_⟩) (fun h => Bool.noConfusion (Eq.trans (Eq.symm (by kernel_rfl)) h : true = false)) ?_
            · go_simp
            simp only [List.getElem_toArray, List.getElem_cons_succ, List.getElem_cons_zero, Act.put, List.setIfInBounds_toArray, List.set_cons_zero, List.set_cons_succ]
            refine wpAnyU_ready (rs := [28]) (by kernel_rfl) (by simp) ?_
            refine AllReadyU.cons rfl (fun K hK => ?_) AllReadyU.nil
            rw [if_pos (by kernel_rfl)]
            refine wp_store1 39 (.tmp 57) (.tmp 47) rfl ga 1 42 _ u2 rfl rfl R.gb (by simp) HI.out.2.1 B.one ?_
            refine Shut.out hK _ _ (fun h => Bool.noConfusion (Eq.trans (Eq.symm (by kernel_rfl)) h : true = false)) ?_
            replace A := A.far R (by decide) 1 u2
            replace B := B.far R (by decide) 1 u2
            replace C := C.far R (by decide) 1 u2
            replace R := R.set1 u2
            clear hK K
            simp only [List.getElem_toArray, List.getElem_cons_succ, List.getElem_cons_zero, Act.put, List.setIfInBounds_toArray, List.set_cons_zero, List.set_cons_succ]
            refine wpAnyU_take (i := 29) (v := .pointer (some ⟨ga, 0, none⟩)) rfl (by kernel_rfl) (by kernel_rfl) (by kernel_rfl) (by decide) (fun _ _ _ h => h) (Or.inl ⟨by kernel_rfl, fun w' _ => ?_⟩) (fun h => Bool.noConfusion (Eq.trans (Eq.symm (by kernel_rfl)) h : true = false)) ?_
            · go_simp
            simp only [List.getElem_toArray, List.getElem_cons_succ, List.getElem_cons_zero, Act.put, List.setIfInBounds_toArray, List.set_cons_zero, List.set_cons_succ]
            refine wpAnyU_take (i := 30) (v := .pointer (some ⟨ga, 2, none⟩)) rfl (by kernel_rfl) (by kernel_rfl) (by kernel_rfl) (by decide) (fun _ _ _ h => h) (Or.inl ⟨by kernel_rfl, fun w' _ => ?_⟩) (fun h => Bool.noConfusion (Eq.trans (Eq.symm (by kernel_rfl)) h : true = false)) ?_
            · go_simp
            simp only [List.getElem_toArray, List.getElem_cons_succ, List.getElem_cons_zero, Act.put, List.setIfInBounds_toArray, List.set_cons_zero, List.set_cons_succ]
            refine wpAnyU_ready (rs := [31]) (by kernel_rfl) (by simp) ?_
            refine AllReadyU.cons rfl (fun K hK => ?_) AllReadyU.nil
            rw [if_pos (by kernel_rfl)]
            refine wp_store1 40 (.tmp 59) (.tmp 53) rfl ga 2 42 _ u3 rfl rfl R.gb (by simp) HI.out.2.2 C.one ?_
            refine Shut.out hK _ _ (fun h => Bool.noConfusion (Eq.trans (Eq.symm (by kernel_rfl)) h : true = false)) ?_
            replace A := A.far R (by decide) 2 u3
            replace B := B.far R (by decide) 2 u3
            replace C := C.far R (by decide) 2 u3
            replace R := R.set2 u3
            clear hK K
            simp only [List.getElem_toArray, List.getElem_cons_succ, List.getElem_cons_zero, Act.put, List.setIfInBounds_toArray, List.set_cons_zero, List.set_cons_succ]
            refine wpAnyU_done (by kernel_rfl) ?_ _
            have hE := HEND.out _ _ _ _ R A B C
            obtain ⟨A', c', rfl, q1, q2⟩ := row_form A.own
            have cF := R.gb.cell
            clear R A B C HEND
            go_wp2_with (fail)
            go_meet
            refine ⟨_, rfl, ?_⟩
            simpa using hE
          refine AllReadyU.cons rfl (fun K hK => ?_) AllReadyU.nil
          rw [if_pos (by kernel_rfl)]
          refine B.buildK R [.slice AL nL cL] 39 (.tmp 45) rfl H2.out.1 rfl H2.out.2.1 ?_
          intro u2 w63 k R B
          refine Shut.out hK _ _ (fun _ => HS.out.2.2.2.2 _ R.gb R.xb) ?_
          replace A := A.al k
          replace C := C.al k
          clear hK K k
          simp only [List.getElem_toArray, List.getElem_cons_succ, List.getElem_cons_zero, Act.put, List.setIfInBounds_toArray, List.set_cons_zero, List.set_cons_succ]
          refine wpAnyU_ready (rs := [8]) (by kernel_rfl) (by simp) ?_
          refine AllReadyU.cons rfl (fun K hK => ?_) AllReadyU.nil
          rw [if_pos (by kernel_rfl)]
          refine A.buildK R [.int .i64 r, .int .i64 nn] 38 (.tmp 38) rfl H1.out.1 rfl H1.out.2.1 ?_
          intro u1 w64 k R A
          refine Shut.out hK _ _ (fun _ => HS.out.2.2.2.2 _ R.gb R.xb) ?_
          replace B := B.al k
          replace C := C.al k
          clear hK K k
          simp only [List.getElem_toArray, List.getElem_cons_succ, List.getElem_cons_zero, Act.put, List.setIfInBounds_toArray, List.set_cons_zero, List.set_cons_succ]
          refine wpAnyU_ready (rs := [9]) (by kernel_rfl) (by simp) ?_
          refine AllReadyU.cons rfl (fun K hK => ?_) AllReadyU.nil
          rw [if_pos (by kernel_rfl)]
          refine A.appK R (.tmp 37) (.tmp 39) 38 rfl H1.out.1 ?_ ?_ (by decide) H1.out.2.2 ?_
          · rfl
          · rfl
          intro u1 w65 k R A
          refine Shut.out hK _ _ (fun _ => HS.out.2.2.2.2 _ R.gb R.xb) ?_
          replace B := B.gr k (by decide)
          replace C := C.gr k (by decide)
          clear hK K k
          simp only [List.getElem_toArray, List.getElem_cons_succ, List.getElem_cons_zero, Act.put, List.setIfInBounds_toArray, List.set_cons_zero, List.set_cons_succ]
          refine wpAnyU_ready (rs := [16]) (by kernel_rfl) (by simp) ?_
          refine AllReadyU.cons rfl (fun K hK => ?_) AllReadyU.nil
          rw [if_pos (by kernel_rfl)]
          refine B.appK R (.tmp 44) (.tmp 46) 39 rfl H2.out.1 ?_ ?_ (by decide) H2.out.2.2 ?_
          · rfl
          · rfl
          intro u2 w66 k R B
          refine Shut.out hK _ _ (fun _ => HS.out.2.2.2.2 _ R.gb R.xb) ?_
          replace A := A.gr k (by decide)
          replace C := C.gr k (by decide)
          clear hK K k
          simp only [List.getElem_toArray, List.getElem_cons_succ, List.getElem_cons_zero, Act.put, List.setIfInBounds_toArray, List.set_cons_zero, List.set_cons_succ]
          refine wpAnyU_ready (rs := [22]) (by kernel_rfl) (by simp) ?_
          refine AllReadyU.cons rfl (fun K hK => ?_) AllReadyU.nil
          rw [if_pos (by kernel_rfl)]
          refine C.appK R (.tmp 51) (.tmp 52) 40 rfl H3.out.1 ?_ ?_ (by decide) H3.out.2.2 ?_
          · rfl
          · rfl
          intro u3 w67 k R C
          refine Shut.out hK _ _ (fun _ => HS.out.2.2.2.2 _ R.gb R.xb) ?_
          replace A := A.gr k (by decide)
          replace B := B.gr k (by decide)
          clear hK K k
          simp only [List.getElem_toArray, List.getElem_cons_succ, List.getElem_cons_zero, Act.put, List.setIfInBounds_toArray, List.set_cons_zero, List.set_cons_succ]
          refine wpAnyU_take (i := 23) (v := .pointer (some ⟨ga, 0, none⟩)) rfl (by kernel_rfl) (by kernel_rfl) (by kernel_rfl) (by decide) (fun _ _ _ h => h) (Or.inl ⟨by kernel_rfl, fun w' _ => ?_⟩) (fun _ => HS.out.2.2.2.2 _ R.gb R.xb) ?_
          · go_simp
          simp only [List.getElem_toArray, List.getElem_cons_succ, List.getElem_cons_zero, Act.put, List.setIfInBounds_toArray, List.set_cons_zero, List.set_cons_succ]
          refine wpAnyU_take (i := 24) (v := .pointer (some ⟨ga, 0, none⟩)) rfl (by kernel_rfl) (by kernel_rfl) (by kernel_rfl) (by decide) (fun _ _ _ h => h) (Or.inl ⟨by kernel_rfl, fun w' _ => ?_⟩) (fun _ => HS.out.2.2.2.2 _ R.gb R.xb) ?_
          · go_simp
          simp only [List.getElem_toArray, List.getElem_cons_succ, List.getElem_cons_zero, Act.put, List.setIfInBounds_toArray, List.set_cons_zero, List.set_cons_succ]
          refine wpAnyU_ready (rs := [25]) (by kernel_rfl) (by simp) ?_
          refine AllReadyU.cons rfl (fun K hK => ?_) AllReadyU.nil
          rw [if_pos (by kernel_rfl)]
          refine wp_store1 38 (.tmp 55) (.tmp 40) rfl ga 0 42 _ u1 rfl rfl R.gb (by simp) HI.out.1 A.one ?_
          refine Shut.out hK _ _ (fun h => Bool.noConfusion (Eq.trans (Eq.symm (by kernel_rfl)) h : true = false)) ?_
          replace A := A.far R (by decide) 0 u1
          replace B := B.far R (by decide) 0 u1
          replace C := C.far R (by decide) 0 u1
          replace R := R.set0 u1
          clear hK K
          simp only [List.getElem_toArray, List.getElem_cons_succ, List.getElem_cons_zero, Act.put, List.setIfInBounds_toArray, List.set_cons_zero, List.set_cons_succ]
          refine wpAnyU_take (i := 26) (v := .pointer (some ⟨ga, 0, none⟩)) rfl (by kernel_rfl) (by kernel_rfl) (by kernel_rfl) (by decide) (fun _ _ _ h => h) (Or.inl ⟨by kernel_rfl, fun w' _ => ?_⟩) (fun h => Bool.noConfusion (Eq.trans (Eq.symm (by kernel_rfl)) h : true = false)) ?_
          · go_simp
          simp only [List.getElem_toArray, List.getElem_cons_succ, List.getElem_cons_zero, Act.put, List.setIfInBounds_toArray, List.set_cons_zero, List.set_cons_succ]
          refine wpAnyU_take (i := 27) (v := .pointer (some ⟨ga, 1, none⟩)) rfl (by kernel_rfl) (by kernel_rfl) (by kernel_rfl) (by decide) (fun _ _ _ h => h) (Or.inl ⟨by kernel_rfl, fun w' _ => ?_⟩) (fun h => Bool.noConfusion (Eq.trans (Eq.symm (by kernel_rfl)) h : true = false)) ?_
          · go_simp
          simp only [List.getElem_toArray, List.getElem_cons_succ, List.getElem_cons_zero, Act.put, List.setIfInBounds_toArray, List.set_cons_zero, List.set_cons_succ]
          refine wpAnyU_ready (rs := [28]) (by kernel_rfl) (by simp) ?_
          refine AllReadyU.cons rfl (fun K hK => ?_) AllReadyU.nil
          rw [if_pos (by kernel_rfl)]
          refine wp_store1 39 (.tmp 57) (.tmp 47) rfl ga 1 42 _ u2 rfl rfl R.gb (by simp) HI.out.2.1 B.one ?_
          refine Shut.out hK _ _ (fun h => Bool.noConfusion (Eq.trans (Eq.symm (by kernel_rfl)) h : true = false)) ?_
          replace A := A.far R (by decide) 1 u2
          replace B := B.far R (by decide) 1 u2
          replace C := C.far R (by decide) 1 u2
          replace R := R.set1 u2
          clear hK K
          simp only [List.getElem_toArray, List.getElem_cons_succ, List.getElem_cons_zero, Act.put, List.setIfInBounds_toArray, List.set_cons_zero, List.set_cons_succ]
          refine wpAnyU_take (i := 29) (v := .pointer (some ⟨ga, 0, none⟩)) rfl (by kernel_rfl) (by kernel_rfl) (by kernel_rfl) (by decide) (fun _ _ _ h => h) (Or.inl ⟨by kernel_rfl, fun w' _ => ?_⟩) (fun h => Bool.noConfusion (Eq.trans (Eq.symm (by kernel_rfl)) h : true = false)) ?_
          · go_simp
          simp only [List.getElem_toArray, List.getElem_cons_succ, List.getElem_cons_zero, Act.put, List.setIfInBounds_toArray, List.set_cons_zero, List.set_cons_succ]
          refine wpAnyU_take (i := 30) (v := .pointer (some ⟨ga, 2, none⟩)) rfl (by kernel_rfl) (by kernel_rfl) (by kernel_rfl) (by decide) (fun _ _ _ h => h) (Or.inl ⟨by kernel_rfl, fun w' _ => ?_⟩) (fun h => Bool.noConfusion (Eq.trans (Eq.symm (by kernel_rfl)) h : true = false)) ?_
          · go_simp
          simp only [List.getElem_toArray, List.getElem_cons_succ, List.getElem_cons_zero, Act.put, List.setIfInBounds_toArray, List.set_cons_zero, List.set_cons_succ]
          refine wpAnyU_ready (rs := [31]) (by kernel_rfl) (by simp) ?_
          refine AllReadyU.cons rfl (fun K hK => ?_) AllReadyU.nil
          rw [if_pos (by kernel_rfl)]
          refine wp_store1 40 (.tmp 59) (.tmp 53) rfl ga 2 42 _ u3 rfl rfl R.gb (by simp) HI.out.2.2 C.one ?_
          refine Shut.out hK _ _ (fun h => Bool.noConfusion (Eq.trans (Eq.symm (by kernel_rfl)) h : true = false)) ?_
          replace A := A.far R (by decide) 2 u3
          replace B := B.far R (by decide) 2 u3
          replace C := C.far R (by decide) 2 u3
          replace R := R.set2 u3
          clear hK K
          simp only [List.getElem_toArray, List.getElem_cons_succ, List.getElem_cons_zero, Act.put, List.setIfInBounds_toArray, List.set_cons_zero, List.set_cons_succ]
          refine wpAnyU_done (by kernel_rfl) ?_ _
          have hE := HEND.out _ _ _ _ R A B C
          obtain ⟨A', c', rfl, q1, q2⟩ := row_form A.own
          have cF := R.gb.cell
          clear R A B C HEND
          go_wp2_with (fail)
          go_meet
          refine ⟨_, rfl, ?_⟩
          simpa using hE
        · have hp0 : ¬ ((p : Nat) : Int) < 0 := by omega
          have hAx : AgAt (Grew M w wr) (Grew MG w wr) wr ga es := (AgAt.grow (M' := Grew M w wr) (MG' := Grew MG w wr) (w := w) ⟨_, _, _, vs, hgb, by rw [← HN.out]; exact ho1, by rw [← HN.out]; exact ho2, by rw [← HN.out]; exact ho3, hga, hk1, hk2, hk3, hvl, hvs⟩ (fun m hm => hm.up) (fun k hk => .of hk)).fr (Fr.of_below hbw (fun _ => False)) (Nat.le_refl _) (fun _ h => h.elim) (fun _ h => h.elim)
          have hE : CntMid M MG w ga es (r, nn) L (.int .i64 (p : Nat)) wr := ⟨p, es, e, rfl, he, by rw [← HN.out]; omega, hc e (List.mem_of_getElem? he), .inl ⟨e, he, heb, rfl⟩, hAx, Fr.of_below hbw _⟩
          go_wp2_with (fail)
          go_meet
          exact ⟨_, rfl, hE⟩
      case rest =>
        obtain ⟨wx, rfl, p, es1, e0, rfl, he, hlen1, hc1, hbump, hAx, hfx⟩ := hcut
        obtain ⟨q1, q2, q3, qs, g1, g2, g3, g4, g5, g6, g7, g8, g9, g10⟩ := hAx
        obtain ⟨n1, hn1⟩ : ∃ n1, n1 = es1.length := ⟨_, rfl⟩
        rw [← hn1] at g2 g3 g4 hlen1
        have hp : p < n1 := by rw [hn1]; exact (List.getElem?_eq_some_iff.1 he).1
        obtain ⟨A2, p2, rfl, hl2, hm2⟩ := row_form g3
        obtain ⟨A3, p3, rfl, hl3, hm3⟩ := row_form g4
        obtain ⟨k3, o3, rfl, _, hcell, hfro, hk3l, hset⟩ := row1_cell g4 (cntcs_get he) (Below.refl _ _) (Nat.le_refl _)
        have hG3 := g8 k3 rfl
        have cB := g1.cell
        obtain ⟨eb, eL, c⟩ := e0
        simp only at hcell hc1 hbump
        have hp63 : n1 ≤ 9223372036854775807 := by omega
        go_upto_region 12 with (fail)
        have hset' := hset (.int .i64 ((c : Int) + 1))
        refine wp_letter (fun W' => Blk W' ga 42 #[q1, .slice A2 n1 p2, .slice (some ⟨k3, o3, none⟩) n1 p3] ∧ W'.ownsRow 0 23 2 q1 n1 (balcs es1) ∧ W'.ownsRow 0 46 1 (.slice A2 n1 p2) n1 qs ∧ W'.ownsRow 0 3 1 (.slice (some ⟨k3, o3, none⟩) n1 p3) n1 (cntcs (es1.set p ⟨eb, eL, c + 1⟩)) ∧ Fr wx.heap.size (· = k3) wx W' ∧ W'.heap.size = wx.heap.size) ?_ ?_
        · obtain ⟨cs3, hB3⟩ := own_blk g4 (k := k3) rfl
          refine ⟨g1.far (fun e1 => ?_) _, ownsRow_far g2 hB3 (by decide), ownsRow_far g3 hB3 (by decide), ?_, (Fr.refl wx.heap.size (· = k3) wx).setCell (p := ⟨k3, o3 + p, none⟩) (.inl rfl) _, by simp⟩
          · have e2 : ga = k3 := e1
            subst e2
            unfold Blk at g1 hB3
            rw [g1] at hB3
            injection hB3 with h
            injection h with _ h
            cases h
          · rw [cntcs_set]
            exact hset'
        rintro W' ⟨f1, f2, f3, f4, f5, f6⟩
        have heF : (es1.set p ⟨eb, eL, c + 1⟩)[p]? = some ⟨eb, eL, c + 1⟩ := List.getElem?_set_self (List.getElem?_eq_some_iff.1 he).1
        have HFIN := Lib.hid (show ∀ W2, Below W'.heap.size W' W2 → CountPost M MG w ga es (r, nn) L (.returned (.bool true)) W2 from
          fun W2 hb => CountPost.of hMG hfx he hn1 hbump g5 g6 g7 g8 hG3 g9 g10 f1 f2 f3 f4 f5 f6 hb)
        have hagF := hag _ p _ hbump heF
        simp only at hagF
        have HAG := Lib.hid hagF
        have hlf : ∀ (i : Nat) (v : Value) (e : Ent), qs[i]? = some v → (es1.set p ⟨eb, eL, c + 1⟩)[i]? = some e → Lf (Grew M w wx) W' v e.L := fun i v e h1 h2 => by
          have h3 : ∃ e', es1[i]? = some e' ∧ e'.L = e.L := by
            by_cases hip : p = i
            · subst hip
              rw [heF] at h2
              cases h2
              exact ⟨_, he, rfl⟩
            · rw [List.getElem?_set_ne hip] at h2
              exact ⟨e, h2, rfl⟩
          obtain ⟨e', h4, h5⟩ := h3
          rw [← h5]
          refine (g10 i v e' h1 h4).fr f5 (Nat.le_refl _) (fun k hk => ?_)
          rw [hk]
          rcases hG3 with h | h
          · exact .inl (hMG _ h)
          · exact .inr h
        have hLw : Lf (fun _ => False) W' (.slice AL nL cL) L := (((hL.grow (M' := fun k => MG k ∨ k = k3) (fun m hm => by
            rcases hm with h | h
            · exact .inl (hMG m h)
            · rw [h]; exact hG3.up.imp_left (hMG _))).fr hfx (Nat.le_refl _) (fun k h => .inl h)).fr f5 (Nat.le_refl _) (fun k h => .inr h)).grow (fun m hm => hm.elim)
        have HLF := Lib.hid (And.intro hlf hLw)
        obtain ⟨esF, hesF⟩ : ∃ esF, esF = es1.set p ⟨eb, eL, c + 1⟩ := ⟨_, rfl⟩
        have hnF : n1 = esF.length := by rw [hesF, List.length_set]; exact hn1
        have HNF := Lib.hid hnF
        rw [← hesF] at HAG HLF f4 heF
        obtain ⟨k3', o3', hA3, _, hcellF, _, _, _⟩ := row1_cell f4 (cntcs_get heF) (Below.refl _ _) (Nat.le_refl _)
        obtain ⟨rfl, rfl⟩ : k3 = k3' ∧ o3 = o3' := by injection hA3 with a; injection a with a b; exact ⟨a, b⟩
        simp only at hcellF
        have cF := f1.cell
        have HF := Lib.hid (And.intro f1 (And.intro f3 f4))
        clear hesF hnF hlf hLw hagF hset' hset hfro hcell hbump g1 g2 g3 g4 g5 g6 g7 g8 g9 g10 hG3 hA3 f1 f2 f3 f4 f5 f6 hf hfx hL hLM hag cB he heF hn1 hXr hgr hbw hbr hX1 hgb1 hvs
        by_cases hlt : ((c : Int) + 1) < (half : Nat)
        · go_wp2_with (fail)
          go_ret
          exact HFIN.out _ (Below.refl _ _)
        · have hgec : half ≤ c + 1 := by omega
          have hqn : qs.length = n1 := by have := HF.out.2.1.1; omega
          go_wp2_with (fail)
          go_loopw [89] (fun i wr => ∃ (k : Nat), k ≤ n1 ∧ i = .int .i64 k ∧ Below W'.heap.size W' wr) (fun i _ => n1 - (intOf i).toNat)
          case atStart => exact ⟨0, Nat.zero_le _, rfl, Below.refl _ _⟩
          case round =>
            obtain ⟨k, hk, rfl, hb2⟩ := hrel
            by_cases hlt2 : k < n1
            · obtain ⟨e, he⟩ : ∃ e, esF[k]? = some e := ⟨_, List.getElem?_eq_getElem (by rw [← HNF.out]; exact hlt2)⟩
              obtain ⟨v, hv⟩ : ∃ v, qs[k]? = some v := ⟨_, List.getElem?_eq_getElem (by rw [hqn]; exact hlt2)⟩
              obtain ⟨lo1, hi1, hle, hhi1, _⟩ := (HLF.out.1 k v e hv he).fr (Fr.of_below hb2 (fun _ => False)) (Nat.le_refl _) (fun _ h => h.elim)
              obtain ⟨lo2, hi2, hl2, hhi2, _⟩ := HLF.out.2.fr (Fr.of_below hb2 (fun _ => False)) (Nat.le_refl _) (fun _ h => h)
              obtain ⟨AV, cV, rfl, _⟩ := hle.form
              obtain ⟨kk2, oo2, hA2, _, hc2, _, _, _⟩ := row1_cell HF.out.2.1 hv hb2 (Nat.le_refl _)
              obtain ⟨kk3, oo3, hA3, _, hc3, _, _, _⟩ := row1_cell HF.out.2.2 (cntcs_get he) hb2 (Nat.le_refl _)
              obtain ⟨rfl, rfl⟩ : k3 = kk3 ∧ o3 = oo3 := by injection hA3 with a; injection a with a b; exact ⟨a, b⟩
              subst hA2
              have cR := (HF.out.1.below hb2 HF.out.1.lt).cell
              have hmem := List.mem_of_getElem? he
              have hag2 := HAG.out hgec e hmem
              obtain ⟨eb1, eL1, ec1⟩ := e
              simp only at hc3 hag2 hle
              obtain ⟨nV, hnV⟩ : ∃ nV, nV = eL1.length := ⟨_, rfl⟩
              rw [← hnV] at hc2 hle
              clear hnV hv he hmem hA3
              by_cases hge : (half : Int) ≤ (ec1 : Nat)
              · by_cases h' : eL1 <+: L
                · have kb := begins_any wr lo1 hi1 lo2 hi2 _ _ eL1 L hle hl2 hhi1 hhi2
                  rw [tf_true h'] at kb
                  have HKB := Lib.hid kb
                  have HB := Lib.hid hb2
                  clear kb hle hl2 hag2 h' hb2
                  go_wp2_with (fail)
                  refine HKB.out.mono ?_
                  rintro e' w2 ⟨rfl, hb3⟩
                  go_wp2_with (fail)
                  refine ⟨?_, ?_⟩
                  · exact ⟨k + 1, by omega, by go_num, HB.out.trans (hb3.mono HB.out.size)⟩
                  · simp [intOf]; omega
                · have h2 := (hag2 (by omega)).resolve_left h'
                  have kb := begins_any wr lo1 hi1 lo2 hi2 _ _ eL1 L hle hl2 hhi1 hhi2
                  rw [tf_false h'] at kb
                  have kb2 : ∀ w2, Below wr.heap.size wr w2 → Calls Tryd.prog 69 #[.slice AL nL cL, .slice AV nV cV] w2 (YesNo true w2) := fun w2 hb => by
                    have := begins_any w2 lo2 hi2 lo1 hi1 _ _ L eL1 (hl2.fr (Fr.of_below hb (fun _ => False)) hhi2 (fun _ _ _ h => h)) (hle.fr (Fr.of_below hb (fun _ => False)) hhi1 (fun _ _ _ h => h)) (Nat.le_trans hhi2 hb.size) (Nat.le_trans hhi1 hb.size)
                    rw [tf_true h2] at this
                    exact this
                  have HKB := Lib.hid (And.intro kb kb2)
                  have HB := Lib.hid hb2
                  have HC := Lib.hid (And.intro hc2 cR)
                  clear kb kb2 hle hl2 hag2 h' hb2 h2
                  go_wp2_with (fail)
                  refine HKB.out.1.mono ?_
                  rintro e' w2 ⟨rfl, hb3⟩
                  have cR2 : ∀ i, w2.cell? ⟨ga, i, none⟩ = _ := ((HF.out.1.below HB.out HF.out.1.lt).below hb3 (Nat.lt_of_lt_of_le HF.out.1.lt HB.out.size)).cell
                  have hc22 := (hb3.cell (World.block_lt_of_cell? wr _ hc2)).trans hc2
                  go_wp2_with (fail)
                  refine (HKB.out.2 w2 hb3).mono ?_
                  rintro e' w3 ⟨rfl, hb4⟩
                  go_wp2_with (fail)
                  refine ⟨?_, ?_⟩
                  · exact ⟨k + 1, by omega, by go_num, HB.out.trans ((hb3.trans (hb4.mono hb3.size)).mono HB.out.size)⟩
                  · simp [intOf]; omega
              · go_wp2_with (fail)
                refine ⟨?_, ?_⟩
                · exact ⟨k + 1, by omega, by go_num, hb2⟩
                · simp [intOf]; omega
            · have hkn : k = n1 := by omega
              subst hkn
              go_wp2_with (fail)
              go_ret
              exact HFIN.out _ hb2
end Go.Proofs.YtnlncfjibbdimaaDoor
