/-
  A round and the document's side by side in memory. No walk stands here.
  RoundPlays: one call by both: Begin, Accepted, and what is no call.
  RoundPlays: a promise is told to both.
-/
import Derived.Test.YtnlncfjibbdimaaDoorQD13
import Derived.Test.YtnlncfjibbdimaaDoorNum
import Derived.Test.YtnlncfjibbdimaaDoorSpoil
import Derived.Deep.CutBlock
import Derived.Deep.DeepCutAuto
namespace Go.Proofs.YtnlncfjibbdimaaDoor
open Go.RowKit
set_option linter.unusedSimpArgs false
set_option linter.unusedVariables false

/-- O: the blocks that the two change; M: all that change. -/
structure PairAt (w : World) (M O : Nat → Prop) (B g ga gm n : Nat) (f : Nat → Bool) (hs : List Int) (r : Rnd) (pv lv pv2 dv lv2 : Value) : Prop where
  rnd : RndF w M B g ga n f r pv lv
  doc : MAt w M gm n hs r pv2 dv lv2
  tie : Tied n f hs
  og : O g
  oga : O ga
  ogm : O gm
  odv : ∀ q, dv.ownBlock = some q → O q
  om : ∀ k, O k → M k
  pos : 0 < n
def Pair (w : World) (M O : Nat → Prop) (B g gm n : Nat) : Prop := ∃ ga f hs r pv lv pv2 dv lv2, PairAt w M O B g ga gm n f hs r pv lv pv2 dv lv2

theorem own_blk13 {w : World} {base e size n k : Nat} {v : Value} {xs : List Value} (h : w.ownsRow base e size v n xs) (hk : v.ownBlock = some k) : ∃ cs, Blk w k e cs := by
  rcases h.2 with ⟨rfl, _⟩ | ⟨g, cap, cur, rfl, _, hh, _⟩
  · simp [Value.ownBlock] at hk
  · simp [Value.ownBlock] at hk
    subst hk
    exact ⟨cur, hh⟩

section
variable {w w' : World} {M M' O O' S : Nat → Prop} {B B' g ga gm n : Nat} {f f' : Nat → Bool} {hs hs' : List Int} {r r' : Rnd} {pv lv lv' pv2 dv dv' lv2 lv2' : Value}
theorem PairAt.apart (h : PairAt w M O B g ga gm n f hs r pv lv pv2 dv lv2) : gm ≠ g ∧ gm ≠ ga ∧ ∀ q, dv.ownBlock = some q → q ≠ g ∧ q ≠ ga :=
  ⟨blk_ne13 h.doc.row h.rnd.row (by decide), blk_ne13 h.doc.row h.rnd.ans (by decide), fun q hq => by
    obtain ⟨cs, hc⟩ := own_blk13 h.doc.hrd hq
    exact ⟨blk_ne13 hc h.rnd.row (by decide), blk_ne13 hc h.rnd.ans (by decide)⟩⟩
theorem PairAt.fr (h : PairAt w M O B g ga gm n f hs r pv lv pv2 dv lv2) (F : Fr B' S w w') (hB' : w.heap.size ≤ B') (hS : ∀ k, S k → M k) (hO : ∀ k, O k → ¬ S k) : PairAt w' M O B g ga gm n f hs r pv lv pv2 dv lv2 :=
  ⟨h.rnd.fr F hB' hS (hO _ h.og) (hO _ h.oga), h.doc.fr F hB' hS (hO _ h.ogm) (fun q hq => hO _ (h.odv q hq)), h.tie, h.og, h.oga, h.ogm, h.odv, h.om, h.pos⟩
theorem PairAt.below (h : PairAt w M O B g ga gm n f hs r pv lv pv2 dv lv2) (b : Below w.heap.size w w') : PairAt w' M O B g ga gm n f hs r pv lv pv2 dv lv2 :=
  h.fr (Fr.of_below b (fun _ => False)) (Nat.le_refl _) (fun _ h => h.elim) (fun _ _ h => h)
theorem PairAt.grow (h : PairAt w M O B g ga gm n f hs r pv lv pv2 dv lv2) (hM : ∀ m, M' m → M m ∨ w.heap.size ≤ m) (hM' : ∀ m, M m → M' m) : PairAt w M' O B g ga gm n f hs r pv lv pv2 dv lv2 :=
  ⟨h.rnd.grow hM (hM' _ h.rnd.mg) (hM' _ h.rnd.mga), h.doc.grow hM hM', h.tie, h.og, h.oga, h.ogm, h.odv, fun k hk => hM' _ (h.om k hk), h.pos⟩
/-- Behind a call of the round: the document's is as it was. -/
theorem PairAt.docR (h : PairAt w M O B g ga gm n f hs r pv lv pv2 dv lv2) (F : Fr w.heap.size (fun k => k = g ∨ k = ga) w w') : MAt w' M gm n hs r pv2 dv lv2 := by
  obtain ⟨h1, h2, h3⟩ := h.apart
  exact h.doc.fr F (Nat.le_refl _) (fun k hk => by rcases hk with rfl | rfl; exact h.rnd.mg; exact h.rnd.mga) (fun e => e.elim h1 h2) (fun q hq e => e.elim (h3 q hq).1 (h3 q hq).2)
end

/-- What a play comes to. -/
def Played (M O : Nat → Prop) (B g gm n : Nat) (w w' : World) : Prop :=
  ∃ M' O', Pair w' M' O' B g gm n ∧ Fr w.heap.size O w w' ∧ (∀ k, M k → M' k) ∧ (∀ k, M' k → M k ∨ w.heap.size ≤ k) ∧ (∀ k, M' k → k < w'.heap.size) ∧ (∀ k, O k → O' k) ∧ (∀ k, O' k → O k ∨ w.heap.size ≤ k)
def PlayPost13 (M O : Nat → Prop) (B g gm n : Nat) (w : World) (e : Ending) (w' : World) : Prop := e = .returned (.bool true) ∧ Played M O B g gm n w w'

section
variable {w w0 w1 w2 w3 : World} {M M1 M2 O O1 O2 : Nat → Prop} {B g ga gm n : Nat} {f f' : Nat → Bool} {hs hs' : List Int} {r r' : Rnd} {pv lv lv' pv2 dv dv' lv2 lv2' : Value}
theorem Played.same (h : PairAt w2 M O B g ga gm n f hs r pv lv pv2 dv lv2) (hM : ∀ m, M m → m < w.heap.size) (b : Below w.heap.size w w2) : Played M O B g gm n w w2 :=
  ⟨M, O, ⟨ga, f, hs, r, pv, lv, pv2, dv, lv2, h⟩, Fr.of_below b _, fun _ h => h, fun _ h => .inl h, fun k hk => Nat.lt_of_lt_of_le (hM k hk) b.size, fun _ h => h, fun _ h => .inl h⟩
/-- From an earlier world on, with fewer blocks that change. -/
theorem Played.lift (h : Played M1 O B g gm n w0 w2) (b : Below w.heap.size w w0) (h1 : ∀ k, M k → M1 k) (h2 : ∀ k, M1 k → M k ∨ w.heap.size ≤ k) : Played M O B g gm n w w2 := by
  obtain ⟨M', O', p, F, q1, q2, q3, q4, q5⟩ := h
  have hs := b.size
  refine ⟨M', O', p, (Fr.of_below b _).trans (F.mono hs (fun _ _ h => h)), fun k hk => q1 k (h1 k hk), fun k hk => ?_, q3, q4, fun k hk => (q5 k hk).imp id (fun e => by omega)⟩
  rcases q2 k hk with e | e
  · exact h2 k e
  · exact .inr (by omega)
/-- Behind it blocks change that are neither's. -/
theorem Played.after {S : Nat → Prop} (h : Played M O B g gm n w w2) (F : Fr w2.heap.size S w2 w3) (hS : ∀ k, S k → M k) (hO : ∀ k, S k → ¬ O k) (hSw : ∀ k, S k → k < w.heap.size) (hSO : ∀ k, S k → O k → False) (hlow : ∀ k, S k → w0.heap.size ≤ k) (b : Below w0.heap.size w0 w) (M0 : Nat → Prop) (h1 : ∀ k, M0 k → M k) (h2 : ∀ k, M k → M0 k ∨ w0.heap.size ≤ k) : Played M0 O B g gm n w0 w3 := by
  obtain ⟨M', O', ⟨ga, f, hs, r, pv, lv, pv2, dv, lv2, p⟩, F0, q1, q2, q3, q4, q5⟩ := h
  have hs0 := b.size
  have hs2 := F0.size
  refine ⟨M', O', ⟨ga, f, hs, r, pv, lv, pv2, dv, lv2, p.fr F (Nat.le_refl _) (fun k hk => q1 k (hS k hk)) (fun k hk hsk => ?_)⟩, ?_, fun k hk => q1 k (h1 k hk), fun k hk => ?_, fun k hk => Nat.lt_of_lt_of_le (q3 k hk) F.size, q4, fun k hk => (q5 k hk).imp id (fun e => by omega)⟩
  · rcases q5 k hk with e | e
    · exact hO k hsk e
    · have := hSw k hsk; omega
  · refine ((Fr.of_below b O).trans (F0.mono hs0 (fun _ _ h => h))).trans (F.mono (by omega) (fun k hk hsk => ?_))
    have := hlow k hsk
    omega
  · rcases q2 k hk with e | e
    · exact h2 k e
    · exact .inr (by omega)
/-- Both have changed: the round in w1, the document's behind it. -/
theorem Played.both (h : PairAt w0 M O B g ga gm n f hs r pv lv pv2 dv lv2) (R1 : RndF w1 M B g ga n f' r' pv lv') (F1 : Fr w0.heap.size (fun k => k = g ∨ k = ga) w0 w1) (hT : Tied n f' hs')
    (hG : RGrown M gm n hs r pv2 dv hs' r' w1 w2) : Played M O B g gm n w0 w2 := by
  obtain ⟨M', dv', lv2', D2, F2, q1, q2, q3, q4⟩ := hG
  obtain ⟨a1, a2, a3⟩ := h.apart
  have hsz := F1.size
  have hR2 : RndF w2 M' B g ga n f' r' pv lv' := (R1.grow q2 (q1 _ R1.mg) (q1 _ R1.mga)).fr F2 (Nat.le_refl _) (fun k hk => by
    rcases hk with rfl | hk
    · exact q1 _ h.doc.in_
    · exact q1 _ (h.doc.hM k hk).1) (fun e => by rcases e with e | e; exact a1 e.symm; exact (a3 _ e).1 rfl) (fun e => by rcases e with e | e; exact a2 e.symm; exact (a3 _ e).2 rfl)
  refine ⟨M', fun k => O k ∨ dv'.ownBlock = some k, ⟨ga, f', hs', r', pv, lv', pv2, dv', lv2', hR2, D2, hT, .inl h.og, .inl h.oga, .inl h.ogm, fun q hq => .inr hq, fun k hk => ?_, h.pos⟩, ?_, q1, fun k hk => (q2 k hk).imp id (fun e => by omega), q3, fun k hk => .inl hk, fun k hk => ?_⟩
  · rcases hk with hk | hk
    · exact q1 _ (h.om k hk)
    · exact (D2.hM k hk).1
  · refine (F1.mono (Nat.le_refl _) (fun k _ hk => ?_)).trans (F2.mono hsz (fun k _ hk => ?_))
    · rcases hk with rfl | rfl
      · exact h.og
      · exact h.oga
    · rcases hk with rfl | hk
      · exact h.ogm
      · exact h.odv k hk
  · rcases hk with hk | hk
    · exact .inl hk
    · exact (q4 k hk).imp (fun e => h.odv k e) (fun e => by omega)
/-- Both have changed, the document's not grown. -/
theorem Played.plain (h : PairAt w0 M O B g ga gm n f hs r pv lv pv2 dv lv2) (hMl : ∀ m, M m → m < w0.heap.size) (R1 : RndF w1 M B g ga n f' r' pv lv') (F1 : Fr w0.heap.size (fun k => k = g ∨ k = ga) w0 w1) (hT : Tied n f' hs')
    (D2 : MAt w2 M gm n hs' r' pv2 (.slice none 0 0) lv2') (F2 : Fr w1.heap.size (fun k => k = gm) w1 w2) : Played M O B g gm n w0 w2 :=
  Played.both h R1 F1 hT ⟨M, _, lv2', D2, F2.mono (Nat.le_refl _) (fun _ _ h => .inl h), fun _ h => h, fun _ h => .inl h, fun k hk => by have := hMl k hk; have := F1.size; have := F2.size; omega, fun q hq => by simp [Value.ownBlock] at hq⟩
end

/-- An op of the script. -/
structure Op13R where
  kind : Int
  which : Int
  from_ : Int
  br : Int
  bn : Int
  ar : Int
  an : Int
  lv : Value
  led : List Cmd
def Op13R.cells (o : Op13R) : List Value := [.int .i64 o.kind, .int .i64 o.which, .int .i64 o.from_, .int .i64 o.br, .int .i64 o.bn, .int .i64 o.ar, .int .i64 o.an, o.lv]
theorem op13_info : (Tryd.prog.info? 120).map (·.size) = some 8 := by kernel_rfl
end Go.Proofs.YtnlncfjibbdimaaDoor

namespace Go.Proofs.YtnlncfjibbdimaaDoor
open Go.RowKit
set_option linter.unusedSimpArgs false
set_option linter.unusedVariables false

theorem RGrown.frame {w w' : World} {M : Nat → Prop} {g n : Nat} {hs hs' : List Int} {r r' : Rnd} {pv hv : Value} (h : RGrown M g n hs r pv hv hs' r' w w') : Fr w.heap.size (fun k => k = g ∨ hv.ownBlock = some k) w w' := by
  obtain ⟨_, _, _, _, h, _⟩ := h
  exact h

section
variable {w : World} {M O : Nat → Prop} {B g ga gm n EB : Nat} {A : Nat → Addr} {f : Nat → Bool} {hs : List Int} {r : Rnd} {pv lv pv2 dv lv2 : Value}
theorem num18 (hE : Errs w EB A G18) (hEB : EB ≤ w.heap.size) : Calls Tryd.prog 64 #[errv (A 1)] w fun e w' => e = .returned (.int .i64 18) ∧ Below w.heap.size w w' := by
  have := num_any hE hEB 17 1 rfl
  unfold NumPost at this
  simpa using this
theorem num12 (hE : Errs w EB A G18) (hEB : EB ≤ w.heap.size) : Calls Tryd.prog 64 #[errv (A 3)] w fun e w' => e = .returned (.int .i64 12) ∧ Below w.heap.size w w' := by
  have := num_any hE hEB 11 3 rfl
  unfold NumPost at this
  simpa using this
theorem num0 : Calls Tryd.prog 64 #[.nilIface] w fun e w' => e = .returned (.int .i64 0) ∧ Below w.heap.size w w' := num_nil w
theorem rbegin_no (h : MAt w M g n hs r pv dv lv) (br bn : Int) (hst : r.stage ≤ 2) (hl : ¬ (lg br bn = true ∧ ab br bn r.br r.bn = true)) :
    Calls Tryd.prog 123 #[.pointer (some ⟨g, 0, none⟩), .agg #[.int .i64 br, .int .i64 bn]] w fun e w' => e = .returned (.int .i64 12) ∧ Below w.heap.size w w' := by
  cases hl1 : lg br bn with
  | false => exact rbegin_illegal w M g n hs r pv dv lv h br bn hst hl1
  | true => cases ha : ab br bn r.br r.bn with
    | false => exact rbegin_low w M g n hs r pv dv lv h br bn hst hl1 ha
    | true => exact absurd ⟨hl1, ha⟩ hl

set_option maxRecDepth 100000 in
set_option maxHeartbeats 1600000 in
theorem play13_none (h : PairAt w M O B g ga gm n f hs r pv lv pv2 dv lv2) (hM : ∀ m, M m → m < w.heap.size) (kind which from_ br bn ar an : Int) (ov : Value) (k1 : ¬ kind = 1) (k2 : ¬ kind = 2) (k3 : ¬ kind = 3) :
    Calls Tryd.prog 65 #[.pointer (some ⟨g, 0, none⟩), .pointer (some ⟨gm, 0, none⟩), .agg #[.int .i64 kind, .int .i64 which, .int .i64 from_, .int .i64 br, .int .i64 bn, .int .i64 ar, .int .i64 an, ov]] w (PlayPost13 M O B g gm n w) := by
  have bA : Below w.heap.size w (w.alloc (.cells #[.int .i64 kind, .int .i64 which, .int .i64 from_, .int .i64 br, .int .i64 bn, .int .i64 ar, .int .i64 an, ov] 120)) := (Below.refl _ _).alloc (Nat.le_refl _) _
  have hret := Played.same (h.below bA) hM bA
  have hX := (Blk.new w 120 #[.int .i64 kind, .int .i64 which, .int .i64 from_, .int .i64 br, .int .i64 bn, .int .i64 ar, .int .i64 an, ov]).cell 0
  have HR := Lib.hid hret
  clear hret bA h hM
  go_enter Tryd.func65, Tryd.ntmps65
  go_wp2_with (fail)
  go_ret
  exact ⟨rfl, HR.out⟩

set_option maxRecDepth 100000 in
set_option maxHeartbeats 3200000 in
theorem play13_late (h : PairAt w M O B g ga gm n f hs r pv lv pv2 dv lv2) (hM : ∀ m, M m → m < w.heap.size) (hE : Errs w EB A G18) (hEB : EB ≤ w.heap.size) (hME : ∀ m, M m → EB ≤ m) (which from_ br bn ar an : Int) (ov : Value) (hs3 : 3 ≤ r.stage) :
    Calls Tryd.prog 65 #[.pointer (some ⟨g, 0, none⟩), .pointer (some ⟨gm, 0, none⟩), .agg #[.int .i64 1, .int .i64 which, .int .i64 from_, .int .i64 br, .int .i64 bn, .int .i64 ar, .int .i64 an, ov]] w (PlayPost13 M O B g gm n w) := by
  go_enter Tryd.func65, Tryd.ntmps65
  go_upto_region 1 with (fail)
  have bA : Below w.heap.size w (w.alloc (.cells #[.int .i64 1, .int .i64 which, .int .i64 from_, .int .i64 br, .int .i64 bn, .int .i64 ar, .int .i64 an, ov] 120)) := (Below.refl _ _).alloc (Nat.le_refl _) _
  refine wp_letter (fun W => PairAt W M O B g ga gm n f hs r pv lv pv2 dv lv2 ∧ Blk W w.heap.size 120 #[.int .i64 1, .int .i64 which, .int .i64 from_, .int .i64 br, .int .i64 bn, .int .i64 ar, .int .i64 an, ov] ∧ Below w.heap.size w W) ⟨h.below bA, Blk.new _ _ _, bA⟩ ?_
  clear bA
  rintro W ⟨P1, X1, b1⟩
  obtain ⟨x, hx⟩ : ∃ x, x = w.heap.size := ⟨_, rfl⟩
  rw [← hx] at X1 ⊢
  have cX := X1.cell
  have hE1 : Errs W EB A G18 := hE.fr (Fr.of_below b1 (fun _ => False)) hEB (fun _ _ h => h)
  have hEW : EB ≤ W.heap.size := Nat.le_trans hEB b1.size
  have hMW : ∀ m, M m → m < W.heap.size := fun m hm => Nat.lt_of_lt_of_le (hM m hm) b1.size
  have hxg : ¬ (x = g ∨ x = ga) := fun e => by have := hM g P1.rnd.mg; have := hM ga P1.rnd.mga; rcases e with e | e <;> omega
  have hxm : ¬ x = gm := fun e => by have := hM gm P1.doc.in_; omega
  have hxd : ∀ q, dv.ownBlock = some q → x ≠ q := fun q hq e => by have := hM q (P1.doc.hM q hq).1; omega
  have HP := Lib.hid (And.intro P1 (And.intro X1 (And.intro b1 (And.intro hE1 (And.intro hEW (And.intro hMW (And.intro hxg (And.intro hxm hxd))))))))
  have HH := Lib.hid (And.intro hM (And.intro hEB hME))
  have c3 : W.cell? ⟨x, 3, none⟩ = some (.int .i64 br) := X1.cell 3
  have c4 : W.cell? ⟨x, 4, none⟩ = some (.int .i64 bn) := X1.cell 4
  have c2 : W.cell? ⟨x, 2, none⟩ = some (.int .i64 from_) := X1.cell 2
  clear h hM hE hEB hME P1 X1 b1 hE1 hEW hMW hxg hxm hxd hx
  go_upto_region 3 with (fail)
  clear cX
  have hBr : Below W.heap.size W W.drew := (Below.refl W.heap.size W).drew
  have P2 := HP.out.1.below hBr
  have X2 := HP.out.2.1.below hBr HP.out.2.1.lt
  have E2 : Errs W.drew EB A G18 := HP.out.2.2.2.1.fr (Fr.of_below hBr (fun _ => False)) HP.out.2.2.2.2.1 (fun _ _ h => h)
  have H2 := Lib.hid (And.intro P2 (And.intro X2 E2))
  clear P2 X2 E2
  go_region_held3 (fun w' => w'.cell? ⟨x, 3, none⟩ = some (.int .i64 br) ∧ w'.cell? ⟨x, 4, none⟩ = some (.int .i64 bn)) (go_keep)
    (first
      | (go_at_call 55
         refine (H2.out.1.rnd.begin_late br bn (A 1) (H2.out.2.2.cell 1 (by decide)) hs3).mono ?_
         rintro e u1 ⟨rfl, d1⟩
         have hb1 := hBr.trans (d1.mono hBr.size)
         have X1 := HP.out.2.1.below hb1 HP.out.2.1.lt
         have q31 : u1.cell? ⟨x, 3, none⟩ = some (.int .i64 br) := X1.cell 3
         have q41 : u1.cell? ⟨x, 4, none⟩ = some (.int .i64 bn) := X1.cell 4
         have q21 : u1.cell? ⟨x, 2, none⟩ = some (.int .i64 from_) := X1.cell 2
         have HB1 := Lib.hid hb1
         clear d1 X1)
      | (go_at_call 64
         refine (num18 (HP.out.2.2.2.1.fr (Fr.of_below HB1.out (fun _ => False)) HP.out.2.2.2.2.1 (fun _ _ h => h)) (Nat.le_trans HP.out.2.2.2.2.1 HB1.out.size)).mono ?_
         rintro e u2 ⟨rfl, d2⟩
         have hb2 := HB1.out.trans (d2.mono HB1.out.size)
         have X2 := HP.out.2.1.below hb2 HP.out.2.1.lt
         have q32 : u2.cell? ⟨x, 3, none⟩ = some (.int .i64 br) := X2.cell 3
         have q42 : u2.cell? ⟨x, 4, none⟩ = some (.int .i64 bn) := X2.cell 4
         have q22 : u2.cell? ⟨x, 2, none⟩ = some (.int .i64 from_) := X2.cell 2
         have HB2 := Lib.hid hb2
         clear d2 X2)
      | (go_at_call 123
         refine (rbegin_late _ M gm n hs r pv2 dv lv2 (HP.out.1.below HB2.out).doc br bn (by omega)).mono ?_
         rintro e u3 ⟨rfl, d3⟩
         have hb3 := HB2.out.trans (d3.mono HB2.out.size)
         have X3 := HP.out.2.1.below hb3 HP.out.2.1.lt
         have q33 : u3.cell? ⟨x, 3, none⟩ = some (.int .i64 br) := X3.cell 3
         have q43 : u3.cell? ⟨x, 4, none⟩ = some (.int .i64 bn) := X3.cell 4
         have q23 : u3.cell? ⟨x, 2, none⟩ = some (.int .i64 from_) := X3.cell 2
         have HB3 := Lib.hid hb3
         clear d3 X3))
  go_wp2_with (fail)
  go_ret
  exact ⟨rfl, Played.same (HP.out.1.below HB3.out) HH.out.1 (HP.out.2.2.1.trans (HB3.out.mono HP.out.2.2.1.size))⟩

set_option maxRecDepth 100000 in
set_option maxHeartbeats 3200000 in
theorem play13_no (h : PairAt w M O B g ga gm n f hs r pv lv pv2 dv lv2) (hM : ∀ m, M m → m < w.heap.size) (hE : Errs w EB A G18) (hEB : EB ≤ w.heap.size) (hME : ∀ m, M m → EB ≤ m) (which from_ br bn ar an : Int) (ov : Value) (hs3 : r.stage < 3) (hl : ¬ (lg br bn = true ∧ ab br bn r.br r.bn = true)) :
    Calls Tryd.prog 65 #[.pointer (some ⟨g, 0, none⟩), .pointer (some ⟨gm, 0, none⟩), .agg #[.int .i64 1, .int .i64 which, .int .i64 from_, .int .i64 br, .int .i64 bn, .int .i64 ar, .int .i64 an, ov]] w (PlayPost13 M O B g gm n w) := by
  go_enter Tryd.func65, Tryd.ntmps65
  go_upto_region 1 with (fail)
  have bA : Below w.heap.size w (w.alloc (.cells #[.int .i64 1, .int .i64 which, .int .i64 from_, .int .i64 br, .int .i64 bn, .int .i64 ar, .int .i64 an, ov] 120)) := (Below.refl _ _).alloc (Nat.le_refl _) _
  refine wp_letter (fun W => PairAt W M O B g ga gm n f hs r pv lv pv2 dv lv2 ∧ Blk W w.heap.size 120 #[.int .i64 1, .int .i64 which, .int .i64 from_, .int .i64 br, .int .i64 bn, .int .i64 ar, .int .i64 an, ov] ∧ Below w.heap.size w W) ⟨h.below bA, Blk.new _ _ _, bA⟩ ?_
  clear bA
  rintro W ⟨P1, X1, b1⟩
  obtain ⟨x, hx⟩ : ∃ x, x = w.heap.size := ⟨_, rfl⟩
  rw [← hx] at X1 ⊢
  have cX := X1.cell
  have hE1 : Errs W EB A G18 := hE.fr (Fr.of_below b1 (fun _ => False)) hEB (fun _ _ h => h)
  have hEW : EB ≤ W.heap.size := Nat.le_trans hEB b1.size
  have hMW : ∀ m, M m → m < W.heap.size := fun m hm => Nat.lt_of_lt_of_le (hM m hm) b1.size
  have hxg : ¬ (x = g ∨ x = ga) := fun e => by have := hM g P1.rnd.mg; have := hM ga P1.rnd.mga; rcases e with e | e <;> omega
  have hxm : ¬ x = gm := fun e => by have := hM gm P1.doc.in_; omega
  have hxd : ∀ q, dv.ownBlock = some q → x ≠ q := fun q hq e => by have := hM q (P1.doc.hM q hq).1; omega
  have HP := Lib.hid (And.intro P1 (And.intro X1 (And.intro b1 (And.intro hE1 (And.intro hEW (And.intro hMW (And.intro hxg (And.intro hxm hxd))))))))
  have HH := Lib.hid (And.intro hM (And.intro hEB hME))
  have c3 : W.cell? ⟨x, 3, none⟩ = some (.int .i64 br) := X1.cell 3
  have c4 : W.cell? ⟨x, 4, none⟩ = some (.int .i64 bn) := X1.cell 4
  have c2 : W.cell? ⟨x, 2, none⟩ = some (.int .i64 from_) := X1.cell 2
  clear h hM hE hEB hME P1 X1 b1 hE1 hEW hMW hxg hxm hxd hx
  go_upto_region 3 with (fail)
  clear cX
  have hBr : Below W.heap.size W W.drew := (Below.refl W.heap.size W).drew
  have P2 := HP.out.1.below hBr
  have X2 := HP.out.2.1.below hBr HP.out.2.1.lt
  have E2 : Errs W.drew EB A G18 := HP.out.2.2.2.1.fr (Fr.of_below hBr (fun _ => False)) HP.out.2.2.2.2.1 (fun _ _ h => h)
  have H2 := Lib.hid (And.intro P2 (And.intro X2 E2))
  clear P2 X2 E2
  go_region_held3 (fun w' => w'.cell? ⟨x, 3, none⟩ = some (.int .i64 br) ∧ w'.cell? ⟨x, 4, none⟩ = some (.int .i64 bn)) (go_keep)
    (first
      | (go_at_call 55
         refine (H2.out.1.rnd.begin_no br bn (A 3) (H2.out.2.2.cell 3 (by decide)) hs3 hl).mono ?_
         rintro e u1 ⟨rfl, d1⟩
         have hb1 := hBr.trans (d1.mono hBr.size)
         have X1 := HP.out.2.1.below hb1 HP.out.2.1.lt
         have q31 : u1.cell? ⟨x, 3, none⟩ = some (.int .i64 br) := X1.cell 3
         have q41 : u1.cell? ⟨x, 4, none⟩ = some (.int .i64 bn) := X1.cell 4
         have q21 : u1.cell? ⟨x, 2, none⟩ = some (.int .i64 from_) := X1.cell 2
         have HB1 := Lib.hid hb1
         clear d1 X1)
      | (go_at_call 64
         refine (num12 (HP.out.2.2.2.1.fr (Fr.of_below HB1.out (fun _ => False)) HP.out.2.2.2.2.1 (fun _ _ h => h)) (Nat.le_trans HP.out.2.2.2.2.1 HB1.out.size)).mono ?_
         rintro e u2 ⟨rfl, d2⟩
         have hb2 := HB1.out.trans (d2.mono HB1.out.size)
         have X2 := HP.out.2.1.below hb2 HP.out.2.1.lt
         have q32 : u2.cell? ⟨x, 3, none⟩ = some (.int .i64 br) := X2.cell 3
         have q42 : u2.cell? ⟨x, 4, none⟩ = some (.int .i64 bn) := X2.cell 4
         have q22 : u2.cell? ⟨x, 2, none⟩ = some (.int .i64 from_) := X2.cell 2
         have HB2 := Lib.hid hb2
         clear d2 X2)
      | (go_at_call 123
         refine (rbegin_no (HP.out.1.below HB2.out).doc br bn (by omega) hl).mono ?_
         rintro e u3 ⟨rfl, d3⟩
         have hb3 := HB2.out.trans (d3.mono HB2.out.size)
         have X3 := HP.out.2.1.below hb3 HP.out.2.1.lt
         have q33 : u3.cell? ⟨x, 3, none⟩ = some (.int .i64 br) := X3.cell 3
         have q43 : u3.cell? ⟨x, 4, none⟩ = some (.int .i64 bn) := X3.cell 4
         have q23 : u3.cell? ⟨x, 2, none⟩ = some (.int .i64 from_) := X3.cell 2
         have HB3 := Lib.hid hb3
         clear d3 X3))
  go_wp2_with (fail)
  go_ret
  exact ⟨rfl, Played.same (HP.out.1.below HB3.out) HH.out.1 (HP.out.2.2.1.trans (HB3.out.mono HP.out.2.2.1.size))⟩

set_option maxRecDepth 100000 in
set_option maxHeartbeats 3200000 in
theorem play13_begins (h : PairAt w M O B g ga gm n f hs r pv lv pv2 dv lv2) (hM : ∀ m, M m → m < w.heap.size) (hE : Errs w EB A G18) (hEB : EB ≤ w.heap.size) (hME : ∀ m, M m → EB ≤ m) (which from_ br bn ar an : Int) (ov : Value) (hs3 : r.stage < 3) (hl : lg br bn = true) (ha : ab br bn r.br r.bn = true) :
    Calls Tryd.prog 65 #[.pointer (some ⟨g, 0, none⟩), .pointer (some ⟨gm, 0, none⟩), .agg #[.int .i64 1, .int .i64 which, .int .i64 from_, .int .i64 br, .int .i64 bn, .int .i64 ar, .int .i64 an, ov]] w (PlayPost13 M O B g gm n w) := by
  go_enter Tryd.func65, Tryd.ntmps65
  go_upto_region 1 with (fail)
  have bA : Below w.heap.size w (w.alloc (.cells #[.int .i64 1, .int .i64 which, .int .i64 from_, .int .i64 br, .int .i64 bn, .int .i64 ar, .int .i64 an, ov] 120)) := (Below.refl _ _).alloc (Nat.le_refl _) _
  refine wp_letter (fun W => PairAt W M O B g ga gm n f hs r pv lv pv2 dv lv2 ∧ Blk W w.heap.size 120 #[.int .i64 1, .int .i64 which, .int .i64 from_, .int .i64 br, .int .i64 bn, .int .i64 ar, .int .i64 an, ov] ∧ Below w.heap.size w W) ⟨h.below bA, Blk.new _ _ _, bA⟩ ?_
  clear bA
  rintro W ⟨P1, X1, b1⟩
  obtain ⟨x, hx⟩ : ∃ x, x = w.heap.size := ⟨_, rfl⟩
  rw [← hx] at X1 ⊢
  have cX := X1.cell
  have hE1 : Errs W EB A G18 := hE.fr (Fr.of_below b1 (fun _ => False)) hEB (fun _ _ h => h)
  have hEW : EB ≤ W.heap.size := Nat.le_trans hEB b1.size
  have hMW : ∀ m, M m → m < W.heap.size := fun m hm => Nat.lt_of_lt_of_le (hM m hm) b1.size
  have hxg : ¬ (x = g ∨ x = ga) := fun e => by have := hM g P1.rnd.mg; have := hM ga P1.rnd.mga; rcases e with e | e <;> omega
  have hxm : ¬ x = gm := fun e => by have := hM gm P1.doc.in_; omega
  have hxd : ∀ q, dv.ownBlock = some q → x ≠ q := fun q hq e => by have := hM q (P1.doc.hM q hq).1; omega
  have HP := Lib.hid (And.intro P1 (And.intro X1 (And.intro b1 (And.intro hE1 (And.intro hEW (And.intro hMW (And.intro hxg (And.intro hxm hxd))))))))
  have HH := Lib.hid (And.intro hM (And.intro hEB hME))
  have c3 : W.cell? ⟨x, 3, none⟩ = some (.int .i64 br) := X1.cell 3
  have c4 : W.cell? ⟨x, 4, none⟩ = some (.int .i64 bn) := X1.cell 4
  have c2 : W.cell? ⟨x, 2, none⟩ = some (.int .i64 from_) := X1.cell 2
  clear h hM hE hEB hME P1 X1 b1 hE1 hEW hMW hxg hxm hxd hx
  go_upto_region 3 with (fail)
  clear cX
  have hBr : Below W.heap.size W W.drew := (Below.refl W.heap.size W).drew
  have P2 := HP.out.1.below hBr
  have X2 := HP.out.2.1.below hBr HP.out.2.1.lt
  have E2 : Errs W.drew EB A G18 := HP.out.2.2.2.1.fr (Fr.of_below hBr (fun _ => False)) HP.out.2.2.2.2.1 (fun _ _ h => h)
  have H2 := Lib.hid (And.intro P2 (And.intro X2 E2))
  clear P2 X2 E2
  go_region_held3 (fun w' => w'.cell? ⟨x, 3, none⟩ = some (.int .i64 br) ∧ w'.cell? ⟨x, 4, none⟩ = some (.int .i64 bn)) (go_keep)
    (first
      | (go_at_call 55
         refine (H2.out.1.rnd.begin_yes (fun m hm => HP.out.2.2.2.2.2.1 m hm) br bn (A 3) (H2.out.2.2.cell 3 (by decide)) hs3 hl ha H2.out.1.pos).mono ?_
         rintro e u1 ⟨rfl, R1, F1⟩
         have X1 := H2.out.2.1.fr F1 H2.out.2.1.lt HP.out.2.2.2.2.2.2.1
         have q31 : u1.cell? ⟨x, 3, none⟩ = some (.int .i64 br) := X1.cell 3
         have q41 : u1.cell? ⟨x, 4, none⟩ = some (.int .i64 bn) := X1.cell 4
         have q21 : u1.cell? ⟨x, 2, none⟩ = some (.int .i64 from_) := X1.cell 2
         have D1 := H2.out.1.docR F1
         have H3 := Lib.hid (And.intro R1 (And.intro F1 (And.intro D1 X1)))
         clear R1 F1 D1 X1)
      | (go_at_call 64
         refine (num0 (w := u1)).mono ?_
         rintro e u2 ⟨rfl, d2⟩
         have X2 := H3.out.2.2.2.below d2 H3.out.2.2.2.lt
         have q32 : u2.cell? ⟨x, 3, none⟩ = some (.int .i64 br) := X2.cell 3
         have q42 : u2.cell? ⟨x, 4, none⟩ = some (.int .i64 bn) := X2.cell 4
         have q22 : u2.cell? ⟨x, 2, none⟩ = some (.int .i64 from_) := X2.cell 2
         have H4 := Lib.hid (And.intro d2 X2)
         clear d2 X2)
      | (go_at_call 123
         refine (rbegin_good u2 M gm n hs r pv2 dv lv2 (H3.out.2.2.1.below H4.out.1) br bn (by omega) hl ha).mono ?_
         rintro e u3 ⟨rfl, D3, F3⟩
         have X3 := H4.out.2.fr F3 H4.out.2.lt HP.out.2.2.2.2.2.2.2.1
         have q33 : u3.cell? ⟨x, 3, none⟩ = some (.int .i64 br) := X3.cell 3
         have q43 : u3.cell? ⟨x, 4, none⟩ = some (.int .i64 bn) := X3.cell 4
         have q23 : u3.cell? ⟨x, 2, none⟩ = some (.int .i64 from_) := X3.cell 2
         have H5 := Lib.hid (And.intro D3 F3)
         clear D3 F3 X3))
  go_wp2_with (fail)
  go_ret
  have R2 := H3.out.1.below H4.out.1
  have F2 : Fr W.drew.heap.size (fun k => k = g ∨ k = ga) W.drew u2 := H3.out.2.1.trans (Fr.of_below (H4.out.1.mono H3.out.2.1.size) _)
  have hp := Played.plain H2.out.1 (fun m hm => HP.out.2.2.2.2.2.1 m hm) R2 F2 (Tied.nil_ n) H5.out.1 H5.out.2
  exact ⟨rfl, hp.lift (HP.out.2.2.1.trans (hBr.mono HP.out.2.2.1.size)) (fun _ h => h) (fun _ h => .inl h)⟩

set_option maxRecDepth 100000 in
set_option maxHeartbeats 3200000 in
theorem play13_accno (h : PairAt w M O B g ga gm n f hs r pv lv pv2 dv lv2) (hM : ∀ m, M m → m < w.heap.size) (hE : Errs w EB A G18) (hEB : EB ≤ w.heap.size) (hME : ∀ m, M m → EB ≤ m) (which from_ br bn ar an : Int) (ov : Value) (hf : ¬ fitsR r n f 2 from_ br bn) :
    Calls Tryd.prog 65 #[.pointer (some ⟨g, 0, none⟩), .pointer (some ⟨gm, 0, none⟩), .agg #[.int .i64 3, .int .i64 which, .int .i64 from_, .int .i64 br, .int .i64 bn, .int .i64 ar, .int .i64 an, ov]] w (PlayPost13 M O B g gm n w) := by
  go_enter Tryd.func65, Tryd.ntmps65
  go_upto_region 1 with (fail)
  have bA : Below w.heap.size w (w.alloc (.cells #[.int .i64 3, .int .i64 which, .int .i64 from_, .int .i64 br, .int .i64 bn, .int .i64 ar, .int .i64 an, ov] 120)) := (Below.refl _ _).alloc (Nat.le_refl _) _
  refine wp_letter (fun W => PairAt W M O B g ga gm n f hs r pv lv pv2 dv lv2 ∧ Blk W w.heap.size 120 #[.int .i64 3, .int .i64 which, .int .i64 from_, .int .i64 br, .int .i64 bn, .int .i64 ar, .int .i64 an, ov] ∧ Below w.heap.size w W) ⟨h.below bA, Blk.new _ _ _, bA⟩ ?_
  clear bA
  rintro W ⟨P1, X1, b1⟩
  obtain ⟨x, hx⟩ : ∃ x, x = w.heap.size := ⟨_, rfl⟩
  rw [← hx] at X1 ⊢
  have cX := X1.cell
  have hE1 : Errs W EB A G18 := hE.fr (Fr.of_below b1 (fun _ => False)) hEB (fun _ _ h => h)
  have hEW : EB ≤ W.heap.size := Nat.le_trans hEB b1.size
  have hMW : ∀ m, M m → m < W.heap.size := fun m hm => Nat.lt_of_lt_of_le (hM m hm) b1.size
  have hxg : ¬ (x = g ∨ x = ga) := fun e => by have := hM g P1.rnd.mg; have := hM ga P1.rnd.mga; rcases e with e | e <;> omega
  have hxm : ¬ x = gm := fun e => by have := hM gm P1.doc.in_; omega
  have hxd : ∀ q, dv.ownBlock = some q → x ≠ q := fun q hq e => by have := hM q (P1.doc.hM q hq).1; omega
  have HP := Lib.hid (And.intro P1 (And.intro X1 (And.intro b1 (And.intro hE1 (And.intro hEW (And.intro hMW (And.intro hxg (And.intro hxm hxd))))))))
  have HH := Lib.hid (And.intro hM (And.intro hEB hME))
  have c3 : W.cell? ⟨x, 3, none⟩ = some (.int .i64 br) := X1.cell 3
  have c4 : W.cell? ⟨x, 4, none⟩ = some (.int .i64 bn) := X1.cell 4
  have c2 : W.cell? ⟨x, 2, none⟩ = some (.int .i64 from_) := X1.cell 2
  clear h hM hE hEB hME P1 X1 b1 hE1 hEW hMW hxg hxm hxd hx
  go_upto_region 19 with (fail)
  clear cX
  have hBr : Below W.heap.size W W.drew := (Below.refl W.heap.size W).drew
  have P2 := HP.out.1.below hBr
  have X2 := HP.out.2.1.below hBr HP.out.2.1.lt
  have E2 : Errs W.drew EB A G18 := HP.out.2.2.2.1.fr (Fr.of_below hBr (fun _ => False)) HP.out.2.2.2.2.1 (fun _ _ h => h)
  have H2 := Lib.hid (And.intro P2 (And.intro X2 E2))
  clear P2 X2 E2
  go_region_held3 (fun w' => w'.cell? ⟨x, 2, none⟩ = some (.int .i64 from_) ∧ w'.cell? ⟨x, 3, none⟩ = some (.int .i64 br) ∧ w'.cell? ⟨x, 4, none⟩ = some (.int .i64 bn)) (go_keep)
    (first
      | (go_at_call 62
         refine (H2.out.1.rnd.accepted_no hf).mono ?_
         rintro e u1 ⟨rfl, d1⟩
         have hb1 := hBr.trans (d1.mono hBr.size)
         have X1 := HP.out.2.1.below hb1 HP.out.2.1.lt
         have q31 : u1.cell? ⟨x, 3, none⟩ = some (.int .i64 br) := X1.cell 3
         have q41 : u1.cell? ⟨x, 4, none⟩ = some (.int .i64 bn) := X1.cell 4
         have q21 : u1.cell? ⟨x, 2, none⟩ = some (.int .i64 from_) := X1.cell 2
         have HB1 := Lib.hid hb1
         clear d1 X1)
      | (go_at_call 125
         refine (raccepted_no _ M gm n hs r pv2 dv lv2 (HP.out.1.below HB1.out).doc (by have := HP.out.1.tie.few; have := HP.out.1.doc.sz; omega) from_ br bn (fun h => hf (HP.out.1.tie.fits.2 h))).mono ?_
         rintro e u2 ⟨rfl, d2⟩
         have hb2 := HB1.out.trans (d2.mono HB1.out.size)
         have X2 := HP.out.2.1.below hb2 HP.out.2.1.lt
         have q32 : u2.cell? ⟨x, 3, none⟩ = some (.int .i64 br) := X2.cell 3
         have q42 : u2.cell? ⟨x, 4, none⟩ = some (.int .i64 bn) := X2.cell 4
         have q22 : u2.cell? ⟨x, 2, none⟩ = some (.int .i64 from_) := X2.cell 2
         have HB2 := Lib.hid hb2
         clear d2 X2))
  go_wp2_with (fail)
  go_ret
  exact ⟨rfl, Played.same (HP.out.1.below HB2.out) HH.out.1 (HP.out.2.2.1.trans (HB2.out.mono HP.out.2.2.1.size))⟩

set_option maxRecDepth 100000 in
set_option maxHeartbeats 3200000 in
theorem play13_accyes (h : PairAt w M O B g ga gm n f hs r pv lv pv2 dv lv2) (hM : ∀ m, M m → m < w.heap.size) (hE : Errs w EB A G18) (hEB : EB ≤ w.heap.size) (hME : ∀ m, M m → EB ≤ m) (which from_ br bn ar an : Int) (ov : Value) (j : Nat) (hfj : from_ = j) (h1 : r.stage = 2) (h2 : br = r.br ∧ bn = r.bn) (hj : j < n) (hf : f j = false) :
    Calls Tryd.prog 65 #[.pointer (some ⟨g, 0, none⟩), .pointer (some ⟨gm, 0, none⟩), .agg #[.int .i64 3, .int .i64 which, .int .i64 from_, .int .i64 br, .int .i64 bn, .int .i64 ar, .int .i64 an, ov]] w (PlayPost13 M O B g gm n w) := by
  subst hfj
  have HF := Lib.hid (And.intro h1 (And.intro h2 (And.intro hj hf)))
  clear h1 h2 hj hf
  go_enter Tryd.func65, Tryd.ntmps65
  go_upto_region 1 with (fail)
  have bA : Below w.heap.size w (w.alloc (.cells #[.int .i64 3, .int .i64 which, .int .i64 j, .int .i64 br, .int .i64 bn, .int .i64 ar, .int .i64 an, ov] 120)) := (Below.refl _ _).alloc (Nat.le_refl _) _
  refine wp_letter (fun W => PairAt W M O B g ga gm n f hs r pv lv pv2 dv lv2 ∧ Blk W w.heap.size 120 #[.int .i64 3, .int .i64 which, .int .i64 j, .int .i64 br, .int .i64 bn, .int .i64 ar, .int .i64 an, ov] ∧ Below w.heap.size w W) ⟨h.below bA, Blk.new _ _ _, bA⟩ ?_
  clear bA
  rintro W ⟨P1, X1, b1⟩
  obtain ⟨x, hx⟩ : ∃ x, x = w.heap.size := ⟨_, rfl⟩
  rw [← hx] at X1 ⊢
  have cX := X1.cell
  have hE1 : Errs W EB A G18 := hE.fr (Fr.of_below b1 (fun _ => False)) hEB (fun _ _ h => h)
  have hEW : EB ≤ W.heap.size := Nat.le_trans hEB b1.size
  have hMW : ∀ m, M m → m < W.heap.size := fun m hm => Nat.lt_of_lt_of_le (hM m hm) b1.size
  have hxg : ¬ (x = g ∨ x = ga) := fun e => by have := hM g P1.rnd.mg; have := hM ga P1.rnd.mga; rcases e with e | e <;> omega
  have hxm : ¬ x = gm := fun e => by have := hM gm P1.doc.in_; omega
  have hxd : ∀ q, dv.ownBlock = some q → x ≠ q := fun q hq e => by have := hM q (P1.doc.hM q hq).1; omega
  have HP := Lib.hid (And.intro P1 (And.intro X1 (And.intro b1 (And.intro hE1 (And.intro hEW (And.intro hMW (And.intro hxg (And.intro hxm hxd))))))))
  have HH := Lib.hid (And.intro hM (And.intro hEB hME))
  have c3 : W.cell? ⟨x, 3, none⟩ = some (.int .i64 br) := X1.cell 3
  have c4 : W.cell? ⟨x, 4, none⟩ = some (.int .i64 bn) := X1.cell 4
  have c2 : W.cell? ⟨x, 2, none⟩ = some (.int .i64 j) := X1.cell 2
  clear h hM hE hEB hME P1 X1 b1 hE1 hEW hMW hxg hxm hxd hx
  go_upto_region 19 with (fail)
  clear cX
  have hBr : Below W.heap.size W W.drew := (Below.refl W.heap.size W).drew
  have P2 := HP.out.1.below hBr
  have X2 := HP.out.2.1.below hBr HP.out.2.1.lt
  have E2 : Errs W.drew EB A G18 := HP.out.2.2.2.1.fr (Fr.of_below hBr (fun _ => False)) HP.out.2.2.2.2.1 (fun _ _ h => h)
  have H2 := Lib.hid (And.intro P2 (And.intro X2 E2))
  clear P2 X2 E2
  go_region_held3 (fun w' => w'.cell? ⟨x, 2, none⟩ = some (.int .i64 j) ∧ w'.cell? ⟨x, 3, none⟩ = some (.int .i64 br) ∧ w'.cell? ⟨x, 4, none⟩ = some (.int .i64 bn)) (go_keep)
    (first
      | (go_at_call 62
         refine (H2.out.1.rnd.accepted_yes (fun m hm => HP.out.2.2.2.2.2.1 m hm) HF.out.1 HF.out.2.1 HF.out.2.2.1 HF.out.2.2.2).mono ?_
         rintro e u1 ⟨rfl, R1, F1⟩
         have X1 := H2.out.2.1.fr F1 H2.out.2.1.lt HP.out.2.2.2.2.2.2.1
         have q31 : u1.cell? ⟨x, 3, none⟩ = some (.int .i64 br) := X1.cell 3
         have q41 : u1.cell? ⟨x, 4, none⟩ = some (.int .i64 bn) := X1.cell 4
         have q21 : u1.cell? ⟨x, 2, none⟩ = some (.int .i64 j) := X1.cell 2
         have D1 := H2.out.1.docR F1
         have H3 := Lib.hid (And.intro R1 (And.intro F1 (And.intro D1 X1)))
         clear R1 F1 D1 X1)
      | (go_at_call 125
         refine (raccepted_yes u1 M gm n hs r pv2 dv lv2 H3.out.2.2.1 (by have := HP.out.1.tie.few; have := HP.out.1.doc.sz; omega) j br bn (HP.out.1.tie.fits.1 ⟨HF.out.1, HF.out.2.1, j, rfl, HF.out.2.2.1, HF.out.2.2.2⟩)).mono ?_
         rintro e u3 hA
         obtain ⟨he, hG⟩ := RAcc13.grown H3.out.2.2.1 (fun m hm => Nat.lt_of_lt_of_le (HP.out.2.2.2.2.2.1 m hm) H3.out.2.1.size) hA
         subst he
         have hX3 : Blk u3 x 120 _ := H3.out.2.2.2.fr hG.frame H3.out.2.2.2.lt (fun e => by rcases e with e | e; exact HP.out.2.2.2.2.2.2.2.1 e; exact HP.out.2.2.2.2.2.2.2.2 _ e rfl)
         have q33 : u3.cell? ⟨x, 3, none⟩ = some (.int .i64 br) := hX3.cell 3
         have q43 : u3.cell? ⟨x, 4, none⟩ = some (.int .i64 bn) := hX3.cell 4
         have q23 : u3.cell? ⟨x, 2, none⟩ = some (.int .i64 j) := hX3.cell 2
         have H5 := Lib.hid hG
         clear hG hA hX3))
  go_wp2_with (fail)
  go_ret
  have hG := H5.out
  rw [HP.out.1.tie.took HF.out.2.2.1 HF.out.2.2.2 HF.out.1] at hG
  have hp := Played.both H2.out.1 H3.out.1 H3.out.2.1 (HP.out.1.tie.more HF.out.2.2.1 HF.out.2.2.2) hG
  exact ⟨rfl, hp.lift (HP.out.2.2.1.trans (hBr.mono HP.out.2.2.1.size)) (fun _ h => h) (fun _ h => .inl h)⟩
end
end Go.Proofs.YtnlncfjibbdimaaDoor

namespace Go.Proofs.YtnlncfjibbdimaaDoor
open Go.RowKit
set_option linter.unusedSimpArgs false
set_option linter.unusedVariables false

theorem Played.on {w w2 w3 : World} {M O : Nat → Prop} {B g gm n : Nat} (h : Played M O B g gm n w w2) (b : Below w2.heap.size w2 w3) : Played M O B g gm n w w3 := by
  obtain ⟨M', O', ⟨ga, f, hs, r, pv, lv, pv2, dv, lv2, p⟩, F0, q1, q2, q3, q4, q5⟩ := h
  exact ⟨M', O', ⟨ga, f, hs, r, pv, lv, pv2, dv, lv2, p.below b⟩, F0.trans (Fr.of_below (b.mono F0.size) _), q1, q2, fun k hk => Nat.lt_of_lt_of_le (q3 k hk) b.size, q4, q5⟩

section
variable {w : World} {M O : Nat → Prop} {B g ga gm n EB : Nat} {A : Nat → Addr} {f : Nat → Bool} {hs : List Int} {r : Rnd} {pv lv pv2 dv lv2 : Value}

set_option maxRecDepth 100000 in
set_option maxHeartbeats 6400000 in
theorem play13_prno (h : PairAt w M O B g ga gm n f hs r pv lv pv2 dv lv2) (hM : ∀ m, M m → m < w.heap.size) (hE : Errs w EB A G18) (hEB : EB ≤ w.heap.size) (hME : ∀ m, M m → EB ≤ m) (which from_ br bn ar an : Int) (ov : Value) (led : List Cmd) (lo hi : Nat) (hL : LedAt w lo hi ov led) (hhi : hi ≤ w.heap.size) (hLM : ∀ m, M m → m < lo ∨ hi ≤ m) (hf : ¬ fitsR r n f 1 from_ br bn) :
    Calls Tryd.prog 65 #[.pointer (some ⟨g, 0, none⟩), .pointer (some ⟨gm, 0, none⟩), .agg #[.int .i64 2, .int .i64 which, .int .i64 from_, .int .i64 br, .int .i64 bn, .int .i64 ar, .int .i64 an, ov]] w (PlayPost13 M O B g gm n w) := by
  obtain ⟨A0, c0, hov, hl1, hl2, hl3⟩ := hL.form
  obtain ⟨n0, hn0⟩ : ∃ n0, n0 = led.length := ⟨_, rfl⟩
  rw [← hn0] at hov
  subst hov
  have HN := Lib.hid hn0
  clear hn0 hl1 hl2 hl3
  go_enter Tryd.func65, Tryd.ntmps65
  go_upto_region 1 with (fail)
  have bA : Below w.heap.size w (w.alloc (.cells #[.int .i64 2, .int .i64 which, .int .i64 from_, .int .i64 br, .int .i64 bn, .int .i64 ar, .int .i64 an, .slice A0 n0 c0] 120)) := (Below.refl _ _).alloc (Nat.le_refl _) _
  refine wp_letter (fun W => PairAt W M O B g ga gm n f hs r pv lv pv2 dv lv2 ∧ Blk W w.heap.size 120 #[.int .i64 2, .int .i64 which, .int .i64 from_, .int .i64 br, .int .i64 bn, .int .i64 ar, .int .i64 an, .slice A0 n0 c0] ∧ Below w.heap.size w W) ⟨h.below bA, Blk.new _ _ _, bA⟩ ?_
  clear bA
  rintro W ⟨P1, X1, b1⟩
  obtain ⟨x, hx⟩ : ∃ x, x = w.heap.size := ⟨_, rfl⟩
  rw [← hx] at X1 ⊢
  have cX := X1.cell
  have hE1 : Errs W EB A G18 := hE.fr (Fr.of_below b1 (fun _ => False)) hEB (fun _ _ h => h)
  have hEW : EB ≤ W.heap.size := Nat.le_trans hEB b1.size
  have hMW : ∀ m, M m → m < W.heap.size := fun m hm => Nat.lt_of_lt_of_le (hM m hm) b1.size
  have hxg : ¬ (x = g ∨ x = ga) := fun e => by have := hM g P1.rnd.mg; have := hM ga P1.rnd.mga; rcases e with e | e <;> omega
  have hxm : ¬ x = gm := fun e => by have := hM gm P1.doc.in_; omega
  have hxd : ∀ q, dv.ownBlock = some q → x ≠ q := fun q hq e => by have := hM q (P1.doc.hM q hq).1; omega
  have hLW : LedAt W lo hi (.slice A0 n0 c0) led := hL.fr (Fr.of_below b1 (fun _ => False)) hhi (fun _ _ _ h => h)
  have HP := Lib.hid (And.intro P1 (And.intro X1 (And.intro b1 (And.intro hE1 (And.intro hEW (And.intro hMW (And.intro hxg (And.intro hxm hxd))))))))
  have HH := Lib.hid (And.intro hM (And.intro hEB (And.intro hLW (And.intro (Nat.le_trans hhi b1.size) (And.intro hLM hx)))))
  clear h hM hE hEB hME P1 X1 b1 hE1 hEW hMW hxg hxm hxd hx hL hLW hhi hLM
  go_upto_region 6 with (first
    | (go_at_call 42
       refine (rcopy_any W lo hi _ led HH.out.2.2.1 HH.out.2.2.2.1).mono ?_
       rintro e w2 ⟨v2, rfl, o2, b2⟩
       obtain ⟨A4, c4, hv4, _⟩ := o2.at_.form
       obtain ⟨n4, hn4⟩ : ∃ n4, n4 = led.length := ⟨_, rfl⟩
       rw [← hn4] at hv4
       subst hv4
       have H2 := Lib.hid (And.intro o2 (And.intro b2 hn4))
       clear o2 b2 hn4)
    | fail)
  obtain ⟨lo4, hlo4⟩ : ∃ lo4, lo4 = W.heap.size := ⟨_, rfl⟩
  obtain ⟨hi4, hhi4⟩ : ∃ hi4, hi4 = w2.heap.size := ⟨_, rfl⟩
  have o2 := H2.out.1
  rw [← hlo4, ← hhi4] at o2
  obtain ⟨M1, hM1⟩ : ∃ M1 : Nat → Prop, M1 = fun k => M k ∨ (lo4 ≤ k ∧ k < hi4) := ⟨_, rfl⟩
  have P2 : PairAt w2 M1 O B g ga gm n f hs r pv lv pv2 dv lv2 := (HP.out.1.grow (M' := M1) (fun m hm => by rw [hM1] at hm; exact hm.imp id (fun e => by omega)) (fun m hm => by rw [hM1]; exact .inl hm)).below H2.out.2.1
  have hM1l : ∀ m, M1 m → m < w2.heap.size := fun m hm => by
    rw [hM1] at hm
    rcases hm with hm | hm
    · have := HP.out.2.2.2.2.2.1 m hm; have := H2.out.2.1.size; omega
    · omega
  have hM1L : ∀ m, M1 m → m < lo ∨ hi ≤ m := fun m hm => by
    rw [hM1] at hm
    rcases hm with hm | hm
    · exact HH.out.2.2.2.2.1 m hm
    · have := HH.out.2.2.2.1; omega
  have hOlo : ∀ k, O k → k < lo4 := fun k hk => by rw [hlo4]; exact HP.out.2.2.2.2.2.1 k (HP.out.1.om k hk)
  have L2 : LedAt w2 lo hi (.slice A0 n0 c0) led := HH.out.2.2.1.fr (Fr.of_below H2.out.2.1 (fun _ => False)) HH.out.2.2.2.1 (fun _ _ _ h => h)
  have hhi2 : hi ≤ w2.heap.size := Nat.le_trans HH.out.2.2.2.1 H2.out.2.1.size
  have hhi4' : hi4 ≤ w2.heap.size := by omega
  have X2 := HP.out.2.1.below H2.out.2.1 HP.out.2.1.lt
  have E2 : Errs w2 EB A G18 := HP.out.2.2.2.1.fr (Fr.of_below H2.out.2.1 (fun _ => False)) HP.out.2.2.2.2.1 (fun _ _ h => h)
  have hXs : ∀ w', Blk w' x 120 #[.int .i64 2, .int .i64 which, .int .i64 from_, .int .i64 br, .int .i64 bn, .int .i64 ar, .int .i64 an, .slice A0 n0 c0] → (w'.cell? ⟨x, 2, none⟩ = some (.int .i64 from_) ∧ w'.cell? ⟨x, 7, none⟩ = some (.slice A0 n0 c0) ∧ w'.rangeAt x 3 [.int .i64 br, .int .i64 bn] ∧ w'.rangeAt x 5 [.int .i64 ar, .int .i64 an]) := fun w' b =>
    ⟨b.cell 2, b.cell 7, fun j v hv => by
      rw [b.cell (3 + j)]
      rcases j with _ | _ | j
      · exact hv
      · exact hv
      · simp at hv, fun j v hv => by
      rw [b.cell (5 + j)]
      rcases j with _ | _ | j
      · exact hv
      · exact hv
      · simp at hv⟩
  have HX := Lib.hid hXs
  have hBd : Below w2.heap.size w2 w2.drew := (Below.refl w2.heap.size w2).drew
  have H3 := Lib.hid (And.intro (P2.below hBd) (And.intro (X2.below hBd X2.lt) (And.intro (E2.fr (Fr.of_below hBd (fun _ => False)) (Nat.le_trans HP.out.2.2.2.2.1 H2.out.2.1.size) (fun _ _ h => h)) (And.intro (L2.fr (Fr.of_below hBd (fun _ => False)) hhi2 (fun _ _ _ h => h)) (And.intro (o2.fr (Fr.of_below hBd (fun _ => False)) hhi4' (fun _ _ _ h => h)) hhi2)))))
  have HQ := Lib.hid (And.intro hM1l (And.intro hM1L (And.intro hOlo (And.intro hM1 (And.intro hlo4 hhi4)))))
  clear P2 X2 E2 L2 o2 hhi2 hhi4' hXs hM1l hM1L hOlo hM1 hlo4 hhi4 cX
  go_cut [8] (fun v8 wx => v8 = .bool true ∧ OwnLed wx lo4 hi4 (.slice A4 n4 c4) led ∧ hi4 ≤ wx.heap.size ∧ Played M1 O B g gm n w2 wx)
  case first =>
    have hS0 : Blk w2.drew x 120 #[.int .i64 2, .int .i64 which, .int .i64 from_, .int .i64 br, .int .i64 bn, .int .i64 ar, .int .i64 an, .slice A0 n0 c0] := H3.out.2.1
    refine wp_region_held_drew (S := fun w' => Blk w' x 120 #[.int .i64 2, .int .i64 which, .int .i64 from_, .int .i64 br, .int .i64 bn, .int .i64 ar, .int .i64 an, .slice A0 n0 c0]) (by kernel_rfl) hS0 (fun _ => ?_)
    refine wpAnyH_take (i := 0) (v := .pointer (some ⟨g, 0, none⟩)) rfl (by kernel_rfl) (by kernel_rfl) (by kernel_rfl) (fun _ _ _ h => h) (Or.inl ⟨by kernel_rfl, fun w' hSw => ?_⟩) hS0 ?_
    · go_simp
    try simp only [List.getElem_toArray, List.getElem_cons_succ, List.getElem_cons_zero, Act.put, List.setIfInBounds_toArray, List.set_cons_zero, List.set_cons_succ]
    refine wpAnyH_take (i := 1) (v := .pointer (some ⟨x, 2, none⟩)) rfl (by kernel_rfl) (by kernel_rfl) (by kernel_rfl) (fun _ _ _ h => h) (Or.inl ⟨by kernel_rfl, fun w' hSw => ?_⟩) hS0 ?_
    · go_simp
    try simp only [List.getElem_toArray, List.getElem_cons_succ, List.getElem_cons_zero, Act.put, List.setIfInBounds_toArray, List.set_cons_zero, List.set_cons_succ]
    refine wpAnyH_take (i := 2) (v := .int .i64 from_) rfl (by kernel_rfl) (by kernel_rfl) (by kernel_rfl) (fun _ _ _ h => h) (Or.inl ⟨by kernel_rfl, fun w' hSw => ?_⟩) hS0 ?_
    · (have hcv := (HX.out w' hSw).1; go_simp)
    try simp only [List.getElem_toArray, List.getElem_cons_succ, List.getElem_cons_zero, Act.put, List.setIfInBounds_toArray, List.set_cons_zero, List.set_cons_succ]
    refine wpAnyH_take (i := 3) (v := .pointer (some ⟨x, 3, none⟩)) rfl (by kernel_rfl) (by kernel_rfl) (by kernel_rfl) (fun _ _ _ h => h) (Or.inl ⟨by kernel_rfl, fun w' hSw => ?_⟩) hS0 ?_
    · go_simp
    try simp only [List.getElem_toArray, List.getElem_cons_succ, List.getElem_cons_zero, Act.put, List.setIfInBounds_toArray, List.set_cons_zero, List.set_cons_succ]
    refine wpAnyH_take (i := 4) (v := .agg #[.int .i64 br, .int .i64 bn]) rfl (by kernel_rfl) (by kernel_rfl) (by kernel_rfl) (fun _ _ _ h => h) ?_ hS0 ?_
    · refine yieldsIf_load_mid ?_ 23 (.tmp 33) ?_ x 3 ?_ [.int .i64 br, .int .i64 bn] _ (fun w' hw => (HX.out w' hw).2.2.1) Tryd.underlying23 ?_ bal_info13
      · kernel_rfl
      · rfl
      · kernel_rfl
      · rfl
    try simp only [List.getElem_toArray, List.getElem_cons_succ, List.getElem_cons_zero, Act.put, List.setIfInBounds_toArray, List.set_cons_zero, List.set_cons_succ]
    refine wpAnyH_take (i := 5) (v := .pointer (some ⟨x, 5, none⟩)) rfl (by kernel_rfl) (by kernel_rfl) (by kernel_rfl) (fun _ _ _ h => h) (Or.inl ⟨by kernel_rfl, fun w' hSw => ?_⟩) hS0 ?_
    · go_simp
    try simp only [List.getElem_toArray, List.getElem_cons_succ, List.getElem_cons_zero, Act.put, List.setIfInBounds_toArray, List.set_cons_zero, List.set_cons_succ]
    refine wpAnyH_take (i := 6) (v := .agg #[.int .i64 ar, .int .i64 an]) rfl (by kernel_rfl) (by kernel_rfl) (by kernel_rfl) (fun _ _ _ h => h) ?_ hS0 ?_
    · refine yieldsIf_load_mid ?_ 23 (.tmp 35) ?_ x 5 ?_ [.int .i64 ar, .int .i64 an] _ (fun w' hw => (HX.out w' hw).2.2.2) Tryd.underlying23 ?_ bal_info13
      · kernel_rfl
      · rfl
      · kernel_rfl
      · rfl
    try simp only [List.getElem_toArray, List.getElem_cons_succ, List.getElem_cons_zero, Act.put, List.setIfInBounds_toArray, List.set_cons_zero, List.set_cons_succ]
    refine wpAnyH_take (i := 7) (v := .slice A4 n4 c4) rfl (by kernel_rfl) (by kernel_rfl) (by kernel_rfl) (fun _ _ _ h => h) (Or.inl ⟨by kernel_rfl, fun w' hSw => ?_⟩) hS0 ?_
    · go_simp
    try simp only [List.getElem_toArray, List.getElem_cons_succ, List.getElem_cons_zero, Act.put, List.setIfInBounds_toArray, List.set_cons_zero, List.set_cons_succ]
    refine wpAnyH_take (i := 9) (v := .pointer (some ⟨gm, 0, none⟩)) rfl (by kernel_rfl) (by kernel_rfl) (by kernel_rfl) (fun _ _ _ h => h) (Or.inl ⟨by kernel_rfl, fun w' hSw => ?_⟩) hS0 ?_
    · go_simp
    try simp only [List.getElem_toArray, List.getElem_cons_succ, List.getElem_cons_zero, Act.put, List.setIfInBounds_toArray, List.set_cons_zero, List.set_cons_succ]
    refine wpAnyH_take (i := 10) (v := .pointer (some ⟨x, 2, none⟩)) rfl (by kernel_rfl) (by kernel_rfl) (by kernel_rfl) (fun _ _ _ h => h) (Or.inl ⟨by kernel_rfl, fun w' hSw => ?_⟩) hS0 ?_
    · go_simp
    try simp only [List.getElem_toArray, List.getElem_cons_succ, List.getElem_cons_zero, Act.put, List.setIfInBounds_toArray, List.set_cons_zero, List.set_cons_succ]
    refine wpAnyH_take (i := 11) (v := .int .i64 from_) rfl (by kernel_rfl) (by kernel_rfl) (by kernel_rfl) (fun _ _ _ h => h) (Or.inl ⟨by kernel_rfl, fun w' hSw => ?_⟩) hS0 ?_
    · (have hcv := (HX.out w' hSw).1; go_simp)
    try simp only [List.getElem_toArray, List.getElem_cons_succ, List.getElem_cons_zero, Act.put, List.setIfInBounds_toArray, List.set_cons_zero, List.set_cons_succ]
    refine wpAnyH_take (i := 12) (v := .pointer (some ⟨x, 3, none⟩)) rfl (by kernel_rfl) (by kernel_rfl) (by kernel_rfl) (fun _ _ _ h => h) (Or.inl ⟨by kernel_rfl, fun w' hSw => ?_⟩) hS0 ?_
    · go_simp
    try simp only [List.getElem_toArray, List.getElem_cons_succ, List.getElem_cons_zero, Act.put, List.setIfInBounds_toArray, List.set_cons_zero, List.set_cons_succ]
    refine wpAnyH_take (i := 13) (v := .agg #[.int .i64 br, .int .i64 bn]) rfl (by kernel_rfl) (by kernel_rfl) (by kernel_rfl) (fun _ _ _ h => h) ?_ hS0 ?_
    · refine yieldsIf_load_mid ?_ 23 (.tmp 42) ?_ x 3 ?_ [.int .i64 br, .int .i64 bn] _ (fun w' hw => (HX.out w' hw).2.2.1) Tryd.underlying23 ?_ bal_info13
      · kernel_rfl
      · rfl
      · kernel_rfl
      · rfl
    try simp only [List.getElem_toArray, List.getElem_cons_succ, List.getElem_cons_zero, Act.put, List.setIfInBounds_toArray, List.set_cons_zero, List.set_cons_succ]
    refine wpAnyH_take (i := 14) (v := .pointer (some ⟨x, 5, none⟩)) rfl (by kernel_rfl) (by kernel_rfl) (by kernel_rfl) (fun _ _ _ h => h) (Or.inl ⟨by kernel_rfl, fun w' hSw => ?_⟩) hS0 ?_
    · go_simp
    try simp only [List.getElem_toArray, List.getElem_cons_succ, List.getElem_cons_zero, Act.put, List.setIfInBounds_toArray, List.set_cons_zero, List.set_cons_succ]
    refine wpAnyH_take (i := 15) (v := .agg #[.int .i64 ar, .int .i64 an]) rfl (by kernel_rfl) (by kernel_rfl) (by kernel_rfl) (fun _ _ _ h => h) ?_ hS0 ?_
    · refine yieldsIf_load_mid ?_ 23 (.tmp 44) ?_ x 5 ?_ [.int .i64 ar, .int .i64 an] _ (fun w' hw => (HX.out w' hw).2.2.2) Tryd.underlying23 ?_ bal_info13
      · kernel_rfl
      · rfl
      · kernel_rfl
      · rfl
    try simp only [List.getElem_toArray, List.getElem_cons_succ, List.getElem_cons_zero, Act.put, List.setIfInBounds_toArray, List.set_cons_zero, List.set_cons_succ]
    refine wpAnyH_take (i := 16) (v := .pointer (some ⟨x, 7, none⟩)) rfl (by kernel_rfl) (by kernel_rfl) (by kernel_rfl) (fun _ _ _ h => h) (Or.inl ⟨by kernel_rfl, fun w' hSw => ?_⟩) hS0 ?_
    · go_simp
    try simp only [List.getElem_toArray, List.getElem_cons_succ, List.getElem_cons_zero, Act.put, List.setIfInBounds_toArray, List.set_cons_zero, List.set_cons_succ]
    refine wpAnyH_take (i := 17) (v := .slice A0 n0 c0) rfl (by kernel_rfl) (by kernel_rfl) (by kernel_rfl) (fun _ _ _ h => h) (Or.inl ⟨by kernel_rfl, fun w' hSw => ?_⟩) hS0 ?_
    · (have hcv := (HX.out w' hSw).2.1; go_simp)
    try simp only [List.getElem_toArray, List.getElem_cons_succ, List.getElem_cons_zero, Act.put, List.setIfInBounds_toArray, List.set_cons_zero, List.set_cons_succ]
    refine wpAnyH_ready (rs := [8]) (by kernel_rfl) (by simp) ?_
    refine AllReadyH.cons rfl (fun K hK => ?_) AllReadyH.nil
    go_simp
    refine (H3.out.1.rnd.promise_no H3.out.1.pos H3.out.2.2.2.2.1.at_ (by have := HQ.out.2.2.2.2.2; have := hBd.size; omega) (.inl (HQ.out.2.2.1 _ H3.out.1.oga)) (A 4) (H3.out.2.2.1.cell 4 (by decide)) hf).mono ?_
    rintro e u1 ⟨rfl, d1⟩
    have hS1 : Blk u1 x 120 #[.int .i64 2, .int .i64 which, .int .i64 from_, .int .i64 br, .int .i64 bn, .int .i64 ar, .int .i64 an, .slice A0 n0 c0] := hS0.below d1 hS0.lt
    have hb1 := hBd.trans (d1.mono hBd.size)
    refine Shut.out hK _ _ hS1 (fun _ => ?_)
    clear hK K
    try simp only [List.getElem_toArray, List.getElem_cons_succ, List.getElem_cons_zero, Act.put, List.setIfInBounds_toArray, List.set_cons_zero, List.set_cons_succ]
    refine wpAnyH_ready (rs := [18]) (by kernel_rfl) (by simp) ?_
    refine AllReadyH.cons rfl (fun K hK => ?_) AllReadyH.nil
    go_simp
    refine (rpromise_no u1 M1 gm n hs r pv2 dv lv2 (H3.out.1.below d1).doc (by have := H3.out.1.tie.few; have := H3.out.1.doc.sz; omega) from_ br bn ar an _ (fun h => hf (H3.out.1.tie.fits.2 h))).mono ?_
    rintro e u2 ⟨rfl, d2⟩
    have hS2 : Blk u2 x 120 #[.int .i64 2, .int .i64 which, .int .i64 from_, .int .i64 br, .int .i64 bn, .int .i64 ar, .int .i64 an, .slice A0 n0 c0] := hS1.below d2 hS1.lt
    have hb2 := hb1.trans (d2.mono hb1.size)
    have db2 := d1.trans (d2.mono d1.size)
    have H4 := Lib.hid (And.intro (H3.out.2.2.2.2.1.fr (Fr.of_below db2 (fun _ => False)) (by have := HQ.out.2.2.2.2.2; have := hBd.size; omega) (fun _ _ _ h => h)) (And.intro (H3.out.2.2.2.1.fr (Fr.of_below db2 (fun _ => False)) (Nat.le_trans H3.out.2.2.2.2.2 hBd.size) (fun _ _ _ h => h)) (And.intro (show hi4 ≤ u2.heap.size by have := HQ.out.2.2.2.2.2; have := hb2.size; omega) (show W.heap.size ≤ u2.heap.size from Nat.le_trans H2.out.2.1.size hb2.size))))
    refine Shut.out hK _ _ hS2 (fun _ => ?_)
    clear hK K
    try simp only [List.getElem_toArray, List.getElem_cons_succ, List.getElem_cons_zero, Act.put, List.setIfInBounds_toArray, List.set_cons_zero, List.set_cons_succ]
    refine wpAnyH_take (i := 19) (v := .bool true) rfl (by kernel_rfl) (by kernel_rfl) (by kernel_rfl) (fun _ _ _ h => h) (Or.inl ⟨by kernel_rfl, fun w' hSw => ?_⟩) hS2 ?_
    · go_simp
    try simp only [List.getElem_toArray, List.getElem_cons_succ, List.getElem_cons_zero, Act.put, List.setIfInBounds_toArray, List.set_cons_zero, List.set_cons_succ]
    refine wpAnyH_take (i := 20) (v := .bool true) rfl (by kernel_rfl) (by kernel_rfl) (by kernel_rfl) (fun _ _ _ h => h) (Or.inl ⟨by kernel_rfl, fun w' hSw => ?_⟩) hS2 ?_
    · go_simp
    try simp only [List.getElem_toArray, List.getElem_cons_succ, List.getElem_cons_zero, Act.put, List.setIfInBounds_toArray, List.set_cons_zero, List.set_cons_succ]
    refine wpAnyH_take (i := 21) (v := .slice A4 n4 c4) rfl (by kernel_rfl) (by kernel_rfl) (by kernel_rfl) (fun _ _ _ h => h) (Or.inl ⟨by kernel_rfl, fun w' hSw => ?_⟩) hS2 ?_
    · go_simp
    try simp only [List.getElem_toArray, List.getElem_cons_succ, List.getElem_cons_zero, Act.put, List.setIfInBounds_toArray, List.set_cons_zero, List.set_cons_succ]
    refine wpAnyH_take (i := 22) (v := .pointer (some ⟨x, 7, none⟩)) rfl (by kernel_rfl) (by kernel_rfl) (by kernel_rfl) (fun _ _ _ h => h) (Or.inl ⟨by kernel_rfl, fun w' hSw => ?_⟩) hS2 ?_
    · go_simp
    try simp only [List.getElem_toArray, List.getElem_cons_succ, List.getElem_cons_zero, Act.put, List.setIfInBounds_toArray, List.set_cons_zero, List.set_cons_succ]
    refine wpAnyH_take (i := 23) (v := .slice A0 n0 c0) rfl (by kernel_rfl) (by kernel_rfl) (by kernel_rfl) (fun _ _ _ h => h) (Or.inl ⟨by kernel_rfl, fun w' hSw => ?_⟩) hS2 ?_
    · (have hcv := (HX.out w' hSw).2.1; go_simp)
    try simp only [List.getElem_toArray, List.getElem_cons_succ, List.getElem_cons_zero, Act.put, List.setIfInBounds_toArray, List.set_cons_zero, List.set_cons_succ]
    refine wpAnyH_ready (rs := [24]) (by kernel_rfl) (by simp) ?_
    refine AllReadyH.cons rfl (fun K hK => ?_) AllReadyH.nil
    go_simp
    refine (same_any u2 _ _ _ _ _ _ led led H4.out.1.at_ H4.out.2.1 H4.out.2.2.1 (Nat.le_trans HH.out.2.2.2.1 H4.out.2.2.2)).mono ?_
    rintro e u3 ⟨he, d3⟩
    rw [tf_iff.2 (rfl : led = led)] at he
    subst he
    have hS3 : Blk u3 x 120 #[.int .i64 2, .int .i64 which, .int .i64 from_, .int .i64 br, .int .i64 bn, .int .i64 ar, .int .i64 an, .slice A0 n0 c0] := hS2.below d3 hS2.lt
    refine Shut.out hK _ _ hS3 (fun _ => ?_)
    clear hK K
    try simp only [List.getElem_toArray, List.getElem_cons_succ, List.getElem_cons_zero, Act.put, List.setIfInBounds_toArray, List.set_cons_zero, List.set_cons_succ]
    refine wpAnyH_take (i := 25) (v := .bool true) rfl (by kernel_rfl) (by kernel_rfl) (by kernel_rfl) (fun _ _ _ h => h) (Or.inl ⟨by kernel_rfl, fun w' hSw => ?_⟩) hS3 ?_
    · go_simp
    try simp only [List.getElem_toArray, List.getElem_cons_succ, List.getElem_cons_zero, Act.put, List.setIfInBounds_toArray, List.set_cons_zero, List.set_cons_succ]
    refine wpAnyH_take (i := 26) (v := .bool true) rfl (by kernel_rfl) (by kernel_rfl) (by kernel_rfl) (fun _ _ _ h => h) (Or.inl ⟨by kernel_rfl, fun w' hSw => ?_⟩) hS3 ?_
    · go_simp
    try simp only [List.getElem_toArray, List.getElem_cons_succ, List.getElem_cons_zero, Act.put, List.setIfInBounds_toArray, List.set_cons_zero, List.set_cons_succ]
    refine wpAnyH_done (by kernel_rfl) ?_ _
    go_wp2_with (fail)
    go_meet
    have hb3 := hb2.trans (d3.mono hb2.size)
    have db3 := db2.trans (d3.mono db2.size)
    exact ⟨rfl, H4.out.1.fr (Fr.of_below d3 (fun _ => False)) H4.out.2.2.1 (fun _ _ _ h => h), Nat.le_trans H4.out.2.2.1 d3.size, Played.same (H3.out.1.below db3) HQ.out.1 hb3⟩
  case rest =>
    obtain ⟨rfl, o5, hh5, hPl⟩ := hcut
    obtain ⟨w3, hw3⟩ : ∃ w3, w3 = wc := ⟨_, rfl⟩
    rw [← hw3] at o5 hh5 hPl ⊢
    clear hw3
    have H5 := Lib.hid (And.intro o5 (And.intro hh5 hPl))
    clear o5 hh5 hPl
    go_upto_block 1 with (fail)
    go_cut [] (fun wx => Fr w3.heap.size (fun k => lo4 ≤ k ∧ k < hi4) w3 wx)
    case first =>
      rcases Nat.eq_zero_or_pos led.length with h0 | h0
      · have hn0 : n4 = 0 := by rw [H2.out.2.2]; exact h0
        subst hn0
        go_wp2_with (fail)
        go_loopw [58] (fun i wr => i = .int .i64 0 ∧ Fr w3.heap.size (fun k => lo4 ≤ k ∧ k < hi4) w3 wr) (fun _ _ => 0)
        case atStart => exact ⟨rfl, Fr.refl _ _ _⟩
        case round =>
          obtain ⟨rfl, hF⟩ := hrel
          go_wp2_with (fail)
          go_meet
          exact hF
      · obtain ⟨q, c, H, hv, hlo, hhi, hsp⟩ := H5.out.1.sp h0
        have hA4 : A4 = some ⟨q, 0, none⟩ := by injection hv
        subst hA4
        obtain ⟨_, _, hv', _, hc1, hc2⟩ := H5.out.1.at_.form
        have hn63 : n4 ≤ 9223372036854775807 := by rw [H2.out.2.2]; omega
        clear hv hv' hc1 hc2
        have HN := Lib.hid H2.out.2.2
        go_wp2_with (fail)
        go_loopw [58] (fun i wr => ∃ k : Nat, k ≤ n4 ∧ i = .int .i64 k ∧ SpAt wr lo4 hi4 q H led ∧ Fr w3.heap.size (fun k => lo4 ≤ k ∧ k < hi4) w3 wr) (fun i _ => n4 - (intOf i).toNat)
        case atStart => exact ⟨0, Nat.zero_le _, rfl, hsp, Fr.refl _ _ _⟩
        case round =>
          obtain ⟨k, hk, rfl, hs, hF⟩ := hrel
          by_cases hlt : k < n4
          · have hk1 : k < led.length := by rw [← HN.out]; exact hlt
            obtain ⟨cs, hB, hq⟩ := hs
            obtain ⟨q1, q2, q3, q4, q5⟩ := hq k _ (List.getElem?_eq_getElem hk1)
            have HS : SpAt wr lo4 hi4 q H led := ⟨cs, hB, hq⟩
            clear hq
            obtain ⟨m, hm⟩ : ∃ m, m = led[k].parts.length := ⟨_, rfl⟩
            rw [← hm] at q2 q3 q5
            obtain ⟨A, hA⟩ : ∃ A, A = (H k).1 := ⟨_, rfl⟩
            obtain ⟨cc, hcc⟩ : ∃ cc, cc = (H k).2 := ⟨_, rfl⟩
            rw [← hA] at q2 q5
            rw [← hcc] at q2 q3 q4
            have c15 : wr.cell? ⟨q, k * 18 + 15, none⟩ = some (.slice A m cc) := (hB.cell _).trans q2
            have hm63 : m ≤ 9223372036854775807 := by simp only [maxLen] at q4; omega
            have HM := Lib.hid hm
            have HA := Lib.hid hA
            clear hm hA hcc q2 q5 q3 q4 hB
            obtain ⟨wo, hwo⟩ : ∃ wo : World, wo = wr := ⟨_, rfl⟩
            rw [← hwo] at HS hF c15 ⊢
            clear hwo
            go_wp2_with (fail)
            go_loopw [67] (fun i wi => ∃ j : Nat, j ≤ m ∧ i = .int .i64 j ∧ wi.cell? ⟨q, k * 18 + 15, none⟩ = some (.slice A m cc) ∧ SpAt wi lo4 hi4 q H led ∧ Fr w3.heap.size (fun k => lo4 ≤ k ∧ k < hi4) w3 wi) (fun i _ => m - (intOf i).toNat)
            case atStart => exact ⟨0, Nat.zero_le _, rfl, c15, HS, hF⟩
            case round =>
              obtain ⟨j, hj, rfl, c15', hs', hF'⟩ := hrel
              by_cases hjm : j < m
              · obtain ⟨cs', hB', hq'⟩ := hs'
                obtain ⟨p1, p2, p3, p4, p5⟩ := hq' k _ (List.getElem?_eq_getElem hk1)
                have HS' : SpAt wr lo4 hi4 q H led := ⟨cs', hB', hq'⟩
                clear hq' p1 p2 p3 p4
                obtain ⟨g', ds, e1, e2, e3, e4, e5⟩ := p5 (by rw [← HM.out]; omega)
                rw [← HA.out] at e1
                subst e1
                have hg' := e4.lt
                have hne : ¬ q = g' := hB'.ne_type e4 (by decide)
                have hds : j < ds.size := by rw [← HM.out] at e5; omega
                have cj : wr.cell? ⟨g', j, none⟩ = some ds[j] := (e4.cell j).trans (Array.getElem?_eq_getElem hds)
                have fj := e4.frozen j
                clear hB' p5 e5 c15
                have e4t := HS'.set_part (j := j) e4 (.int .i64 (-3))
                have hFt := hF'.setCell (p := ⟨g', j, none⟩) (.inl ⟨e2, e3⟩) (.int .i64 (-3))
                have ct : (wr.setCell ⟨g', j, none⟩ (.int .i64 (-3))).cell? ⟨q, k * 18 + 15, none⟩ = some (.slice (some ⟨g', 0, none⟩) m cc) := (((Fr.refl wr.heap.size (· = g') wr).setCell (p := ⟨g', j, none⟩) (.inl rfl) (.int .i64 (-3))).cell (p := ⟨q, k * 18 + 15, none⟩) (World.block_lt_of_cell? wr _ c15') hne).trans c15'
                have CT := Lib.hid (And.intro ct (And.intro e4t hFt))
                clear ct e4t hFt
                go_wp2_with (fail)
                go_roundw
                case rel => exact ⟨j + 1, by omega, by go_num, CT.out.1, CT.out.2.1, CT.out.2.2⟩
                case measure => simp [intOf]; omega
              · have hjm' : j = m := by omega
                subst hjm'
                obtain ⟨cs', hB', hq'⟩ := hs'
                obtain ⟨p1, _⟩ := hq' k _ (List.getElem?_eq_getElem hk1)
                have HS' : SpAt wr lo4 hi4 q H led := ⟨cs', hB', hq'⟩
                have c0 : wr.cell? ⟨q, k * 18, none⟩ = some cs'[k * 18] := (hB'.cell _).trans (Array.getElem?_eq_getElem (by omega))
                have f0 := hB'.frozen (k * 18)
                clear hq' hB'
                go_wp2_with (fail)
                go_roundw
                case rel => exact ⟨k + 1, by omega, by go_num, HS'.set_kind k _, hF'.setCell (p := ⟨q, k * 18, none⟩) (.inl ⟨hlo, hhi⟩) _⟩
                case measure => simp [intOf]; omega
          · have hkn : k = n4 := by omega
            subst hkn
            go_wp2_with (fail)
            go_meet
            exact hF
    case rest =>
      have hpl := H5.out.2.2.after (w0 := w) (M0 := M) hcut (fun k hk => by rw [HQ.out.2.2.2.1]; exact .inr hk) (fun k hk ho => by have := HQ.out.2.2.1 k ho; omega) (fun k hk => by have := HQ.out.2.2.2.2.2; omega) (fun k hk ho => by have := HQ.out.2.2.1 k ho; omega) (fun k hk => by have := HQ.out.2.2.2.2.1; have := HP.out.2.2.1.size; omega) (HP.out.2.2.1.trans (H2.out.2.1.mono HP.out.2.2.1.size)) (fun k hk => by rw [HQ.out.2.2.2.1]; exact .inl hk) (fun k hk => by
        rw [HQ.out.2.2.2.1] at hk
        exact hk.imp id (fun e => by have := HQ.out.2.2.2.2.1; have := HP.out.2.2.1.size; omega))
      have HR := Lib.hid hpl
      clear hpl hcut
      go_wp2_with (fail)
      go_ret
      exact ⟨rfl, HR.out⟩

set_option maxRecDepth 100000 in
set_option maxHeartbeats 6400000 in
theorem play13_pryes (h : PairAt w M O B g ga gm n f hs r pv lv pv2 dv lv2) (hM : ∀ m, M m → m < w.heap.size) (hE : Errs w EB A G18) (hEB : EB ≤ w.heap.size) (hME : ∀ m, M m → EB ≤ m) (which from_ br bn ar an : Int) (ov : Value) (led : List Cmd) (lo hi : Nat) (hL : LedAt w lo hi ov led) (hhi : hi ≤ w.heap.size) (hLM : ∀ m, M m → m < lo ∨ hi ≤ m) (j : Nat) (hfj : from_ = j) (h1 : r.stage = 1) (h2 : br = r.br ∧ bn = r.bn) (hj : j < n) (hf : f j = false) :
    Calls Tryd.prog 65 #[.pointer (some ⟨g, 0, none⟩), .pointer (some ⟨gm, 0, none⟩), .agg #[.int .i64 2, .int .i64 which, .int .i64 from_, .int .i64 br, .int .i64 bn, .int .i64 ar, .int .i64 an, ov]] w (PlayPost13 M O B g gm n w) := by
  subst hfj
  have HF := Lib.hid (And.intro h1 (And.intro h2 (And.intro hj hf)))
  clear h1 h2 hj hf
  obtain ⟨A0, c0, hov, hl1, hl2, hl3⟩ := hL.form
  obtain ⟨n0, hn0⟩ : ∃ n0, n0 = led.length := ⟨_, rfl⟩
  rw [← hn0] at hov
  subst hov
  have HN := Lib.hid hn0
  clear hn0 hl1 hl2 hl3
  go_enter Tryd.func65, Tryd.ntmps65
  go_upto_region 1 with (fail)
  have bA : Below w.heap.size w (w.alloc (.cells #[.int .i64 2, .int .i64 which, .int .i64 j, .int .i64 br, .int .i64 bn, .int .i64 ar, .int .i64 an, .slice A0 n0 c0] 120)) := (Below.refl _ _).alloc (Nat.le_refl _) _
  refine wp_letter (fun W => PairAt W M O B g ga gm n f hs r pv lv pv2 dv lv2 ∧ Blk W w.heap.size 120 #[.int .i64 2, .int .i64 which, .int .i64 j, .int .i64 br, .int .i64 bn, .int .i64 ar, .int .i64 an, .slice A0 n0 c0] ∧ Below w.heap.size w W) ⟨h.below bA, Blk.new _ _ _, bA⟩ ?_
  clear bA
  rintro W ⟨P1, X1, b1⟩
  obtain ⟨x, hx⟩ : ∃ x, x = w.heap.size := ⟨_, rfl⟩
  rw [← hx] at X1 ⊢
  have cX := X1.cell
  have hE1 : Errs W EB A G18 := hE.fr (Fr.of_below b1 (fun _ => False)) hEB (fun _ _ h => h)
  have hEW : EB ≤ W.heap.size := Nat.le_trans hEB b1.size
  have hMW : ∀ m, M m → m < W.heap.size := fun m hm => Nat.lt_of_lt_of_le (hM m hm) b1.size
  have hxg : ¬ (x = g ∨ x = ga) := fun e => by have := hM g P1.rnd.mg; have := hM ga P1.rnd.mga; rcases e with e | e <;> omega
  have hxm : ¬ x = gm := fun e => by have := hM gm P1.doc.in_; omega
  have hxd : ∀ q, dv.ownBlock = some q → x ≠ q := fun q hq e => by have := hM q (P1.doc.hM q hq).1; omega
  have hLW : LedAt W lo hi (.slice A0 n0 c0) led := hL.fr (Fr.of_below b1 (fun _ => False)) hhi (fun _ _ _ h => h)
  have HP := Lib.hid (And.intro P1 (And.intro X1 (And.intro b1 (And.intro hE1 (And.intro hEW (And.intro hMW (And.intro hxg (And.intro hxm hxd))))))))
  have HH := Lib.hid (And.intro hM (And.intro hEB (And.intro hLW (And.intro (Nat.le_trans hhi b1.size) (And.intro hLM hx)))))
  clear h hM hE hEB hME P1 X1 b1 hE1 hEW hMW hxg hxm hxd hx hL hLW hhi hLM
  go_upto_region 6 with (first
    | (go_at_call 42
       refine (rcopy_any W lo hi _ led HH.out.2.2.1 HH.out.2.2.2.1).mono ?_
       rintro e w2 ⟨v2, rfl, o2, b2⟩
       obtain ⟨A4, c4, hv4, _⟩ := o2.at_.form
       obtain ⟨n4, hn4⟩ : ∃ n4, n4 = led.length := ⟨_, rfl⟩
       rw [← hn4] at hv4
       subst hv4
       have H2 := Lib.hid (And.intro o2 (And.intro b2 hn4))
       clear o2 b2 hn4)
    | fail)
  obtain ⟨lo4, hlo4⟩ : ∃ lo4, lo4 = W.heap.size := ⟨_, rfl⟩
  obtain ⟨hi4, hhi4⟩ : ∃ hi4, hi4 = w2.heap.size := ⟨_, rfl⟩
  have o2 := H2.out.1
  rw [← hlo4, ← hhi4] at o2
  obtain ⟨M1, hM1⟩ : ∃ M1 : Nat → Prop, M1 = fun k => M k ∨ (lo4 ≤ k ∧ k < hi4) := ⟨_, rfl⟩
  have P2 : PairAt w2 M1 O B g ga gm n f hs r pv lv pv2 dv lv2 := (HP.out.1.grow (M' := M1) (fun m hm => by rw [hM1] at hm; exact hm.imp id (fun e => by omega)) (fun m hm => by rw [hM1]; exact .inl hm)).below H2.out.2.1
  have hM1l : ∀ m, M1 m → m < w2.heap.size := fun m hm => by
    rw [hM1] at hm
    rcases hm with hm | hm
    · have := HP.out.2.2.2.2.2.1 m hm; have := H2.out.2.1.size; omega
    · omega
  have hM1L : ∀ m, M1 m → m < lo ∨ hi ≤ m := fun m hm => by
    rw [hM1] at hm
    rcases hm with hm | hm
    · exact HH.out.2.2.2.2.1 m hm
    · have := HH.out.2.2.2.1; omega
  have hOlo : ∀ k, O k → k < lo4 := fun k hk => by rw [hlo4]; exact HP.out.2.2.2.2.2.1 k (HP.out.1.om k hk)
  have L2 : LedAt w2 lo hi (.slice A0 n0 c0) led := HH.out.2.2.1.fr (Fr.of_below H2.out.2.1 (fun _ => False)) HH.out.2.2.2.1 (fun _ _ _ h => h)
  have hhi2 : hi ≤ w2.heap.size := Nat.le_trans HH.out.2.2.2.1 H2.out.2.1.size
  have hhi4' : hi4 ≤ w2.heap.size := by omega
  have X2 := HP.out.2.1.below H2.out.2.1 HP.out.2.1.lt
  have E2 : Errs w2 EB A G18 := HP.out.2.2.2.1.fr (Fr.of_below H2.out.2.1 (fun _ => False)) HP.out.2.2.2.2.1 (fun _ _ h => h)
  have hXs : ∀ w', Blk w' x 120 #[.int .i64 2, .int .i64 which, .int .i64 j, .int .i64 br, .int .i64 bn, .int .i64 ar, .int .i64 an, .slice A0 n0 c0] → (w'.cell? ⟨x, 2, none⟩ = some (.int .i64 j) ∧ w'.cell? ⟨x, 7, none⟩ = some (.slice A0 n0 c0) ∧ w'.rangeAt x 3 [.int .i64 br, .int .i64 bn] ∧ w'.rangeAt x 5 [.int .i64 ar, .int .i64 an]) := fun w' b =>
    ⟨b.cell 2, b.cell 7, fun j v hv => by
      rw [b.cell (3 + j)]
      rcases j with _ | _ | j
      · exact hv
      · exact hv
      · simp at hv, fun j v hv => by
      rw [b.cell (5 + j)]
      rcases j with _ | _ | j
      · exact hv
      · exact hv
      · simp at hv⟩
  have HX := Lib.hid hXs
  have hBd : Below w2.heap.size w2 w2.drew := (Below.refl w2.heap.size w2).drew
  have H3 := Lib.hid (And.intro (P2.below hBd) (And.intro (X2.below hBd X2.lt) (And.intro (E2.fr (Fr.of_below hBd (fun _ => False)) (Nat.le_trans HP.out.2.2.2.2.1 H2.out.2.1.size) (fun _ _ h => h)) (And.intro (L2.fr (Fr.of_below hBd (fun _ => False)) hhi2 (fun _ _ _ h => h)) (And.intro (o2.fr (Fr.of_below hBd (fun _ => False)) hhi4' (fun _ _ _ h => h)) hhi2)))))
  have HQ := Lib.hid (And.intro hM1l (And.intro hM1L (And.intro hOlo (And.intro hM1 (And.intro hlo4 hhi4)))))
  clear P2 X2 E2 L2 o2 hhi2 hhi4' hXs hM1l hM1L hOlo hM1 hlo4 hhi4 cX
  go_cut [8] (fun v8 wx => v8 = .bool true ∧ OwnLed wx lo4 hi4 (.slice A4 n4 c4) led ∧ hi4 ≤ wx.heap.size ∧ Played M1 O B g gm n w2 wx)
  case first =>
    have hS0 : Blk w2.drew x 120 #[.int .i64 2, .int .i64 which, .int .i64 j, .int .i64 br, .int .i64 bn, .int .i64 ar, .int .i64 an, .slice A0 n0 c0] := H3.out.2.1
    refine wp_region_held_drew (S := fun w' => Blk w' x 120 #[.int .i64 2, .int .i64 which, .int .i64 j, .int .i64 br, .int .i64 bn, .int .i64 ar, .int .i64 an, .slice A0 n0 c0]) (by kernel_rfl) hS0 (fun _ => ?_)
    refine wpAnyH_take (i := 0) (v := .pointer (some ⟨g, 0, none⟩)) rfl (by kernel_rfl) (by kernel_rfl) (by kernel_rfl) (fun _ _ _ h => h) (Or.inl ⟨by kernel_rfl, fun w' hSw => ?_⟩) hS0 ?_
    · go_simp
    try simp only [List.getElem_toArray, List.getElem_cons_succ, List.getElem_cons_zero, Act.put, List.setIfInBounds_toArray, List.set_cons_zero, List.set_cons_succ]
    refine wpAnyH_take (i := 1) (v := .pointer (some ⟨x, 2, none⟩)) rfl (by kernel_rfl) (by kernel_rfl) (by kernel_rfl) (fun _ _ _ h => h) (Or.inl ⟨by kernel_rfl, fun w' hSw => ?_⟩) hS0 ?_
    · go_simp
    try simp only [List.getElem_toArray, List.getElem_cons_succ, List.getElem_cons_zero, Act.put, List.setIfInBounds_toArray, List.set_cons_zero, List.set_cons_succ]
    refine wpAnyH_take (i := 2) (v := .int .i64 j) rfl (by kernel_rfl) (by kernel_rfl) (by kernel_rfl) (fun _ _ _ h => h) (Or.inl ⟨by kernel_rfl, fun w' hSw => ?_⟩) hS0 ?_
    · (have hcv := (HX.out w' hSw).1; go_simp)
    try simp only [List.getElem_toArray, List.getElem_cons_succ, List.getElem_cons_zero, Act.put, List.setIfInBounds_toArray, List.set_cons_zero, List.set_cons_succ]
    refine wpAnyH_take (i := 3) (v := .pointer (some ⟨x, 3, none⟩)) rfl (by kernel_rfl) (by kernel_rfl) (by kernel_rfl) (fun _ _ _ h => h) (Or.inl ⟨by kernel_rfl, fun w' hSw => ?_⟩) hS0 ?_
    · go_simp
    try simp only [List.getElem_toArray, List.getElem_cons_succ, List.getElem_cons_zero, Act.put, List.setIfInBounds_toArray, List.set_cons_zero, List.set_cons_succ]
    refine wpAnyH_take (i := 4) (v := .agg #[.int .i64 br, .int .i64 bn]) rfl (by kernel_rfl) (by kernel_rfl) (by kernel_rfl) (fun _ _ _ h => h) ?_ hS0 ?_
    · refine yieldsIf_load_mid ?_ 23 (.tmp 33) ?_ x 3 ?_ [.int .i64 br, .int .i64 bn] _ (fun w' hw => (HX.out w' hw).2.2.1) Tryd.underlying23 ?_ bal_info13
      · kernel_rfl
      · rfl
      · kernel_rfl
      · rfl
    try simp only [List.getElem_toArray, List.getElem_cons_succ, List.getElem_cons_zero, Act.put, List.setIfInBounds_toArray, List.set_cons_zero, List.set_cons_succ]
    refine wpAnyH_take (i := 5) (v := .pointer (some ⟨x, 5, none⟩)) rfl (by kernel_rfl) (by kernel_rfl) (by kernel_rfl) (fun _ _ _ h => h) (Or.inl ⟨by kernel_rfl, fun w' hSw => ?_⟩) hS0 ?_
    · go_simp
    try simp only [List.getElem_toArray, List.getElem_cons_succ, List.getElem_cons_zero, Act.put, List.setIfInBounds_toArray, List.set_cons_zero, List.set_cons_succ]
    refine wpAnyH_take (i := 6) (v := .agg #[.int .i64 ar, .int .i64 an]) rfl (by kernel_rfl) (by kernel_rfl) (by kernel_rfl) (fun _ _ _ h => h) ?_ hS0 ?_
    · refine yieldsIf_load_mid ?_ 23 (.tmp 35) ?_ x 5 ?_ [.int .i64 ar, .int .i64 an] _ (fun w' hw => (HX.out w' hw).2.2.2) Tryd.underlying23 ?_ bal_info13
      · kernel_rfl
      · rfl
      · kernel_rfl
      · rfl
    try simp only [List.getElem_toArray, List.getElem_cons_succ, List.getElem_cons_zero, Act.put, List.setIfInBounds_toArray, List.set_cons_zero, List.set_cons_succ]
    refine wpAnyH_take (i := 7) (v := .slice A4 n4 c4) rfl (by kernel_rfl) (by kernel_rfl) (by kernel_rfl) (fun _ _ _ h => h) (Or.inl ⟨by kernel_rfl, fun w' hSw => ?_⟩) hS0 ?_
    · go_simp
    try simp only [List.getElem_toArray, List.getElem_cons_succ, List.getElem_cons_zero, Act.put, List.setIfInBounds_toArray, List.set_cons_zero, List.set_cons_succ]
    refine wpAnyH_take (i := 9) (v := .pointer (some ⟨gm, 0, none⟩)) rfl (by kernel_rfl) (by kernel_rfl) (by kernel_rfl) (fun _ _ _ h => h) (Or.inl ⟨by kernel_rfl, fun w' hSw => ?_⟩) hS0 ?_
    · go_simp
    try simp only [List.getElem_toArray, List.getElem_cons_succ, List.getElem_cons_zero, Act.put, List.setIfInBounds_toArray, List.set_cons_zero, List.set_cons_succ]
    refine wpAnyH_take (i := 10) (v := .pointer (some ⟨x, 2, none⟩)) rfl (by kernel_rfl) (by kernel_rfl) (by kernel_rfl) (fun _ _ _ h => h) (Or.inl ⟨by kernel_rfl, fun w' hSw => ?_⟩) hS0 ?_
    · go_simp
    try simp only [List.getElem_toArray, List.getElem_cons_succ, List.getElem_cons_zero, Act.put, List.setIfInBounds_toArray, List.set_cons_zero, List.set_cons_succ]
    refine wpAnyH_take (i := 11) (v := .int .i64 j) rfl (by kernel_rfl) (by kernel_rfl) (by kernel_rfl) (fun _ _ _ h => h) (Or.inl ⟨by kernel_rfl, fun w' hSw => ?_⟩) hS0 ?_
    · (have hcv := (HX.out w' hSw).1; go_simp)
    try simp only [List.getElem_toArray, List.getElem_cons_succ, List.getElem_cons_zero, Act.put, List.setIfInBounds_toArray, List.set_cons_zero, List.set_cons_succ]
    refine wpAnyH_take (i := 12) (v := .pointer (some ⟨x, 3, none⟩)) rfl (by kernel_rfl) (by kernel_rfl) (by kernel_rfl) (fun _ _ _ h => h) (Or.inl ⟨by kernel_rfl, fun w' hSw => ?_⟩) hS0 ?_
    · go_simp
    try simp only [List.getElem_toArray, List.getElem_cons_succ, List.getElem_cons_zero, Act.put, List.setIfInBounds_toArray, List.set_cons_zero, List.set_cons_succ]
    refine wpAnyH_take (i := 13) (v := .agg #[.int .i64 br, .int .i64 bn]) rfl (by kernel_rfl) (by kernel_rfl) (by kernel_rfl) (fun _ _ _ h => h) ?_ hS0 ?_
    · refine yieldsIf_load_mid ?_ 23 (.tmp 42) ?_ x 3 ?_ [.int .i64 br, .int .i64 bn] _ (fun w' hw => (HX.out w' hw).2.2.1) Tryd.underlying23 ?_ bal_info13
      · kernel_rfl
      · rfl
      · kernel_rfl
      · rfl
    try simp only [List.getElem_toArray, List.getElem_cons_succ, List.getElem_cons_zero, Act.put, List.setIfInBounds_toArray, List.set_cons_zero, List.set_cons_succ]
    refine wpAnyH_take (i := 14) (v := .pointer (some ⟨x, 5, none⟩)) rfl (by kernel_rfl) (by kernel_rfl) (by kernel_rfl) (fun _ _ _ h => h) (Or.inl ⟨by kernel_rfl, fun w' hSw => ?_⟩) hS0 ?_
    · go_simp
    try simp only [List.getElem_toArray, List.getElem_cons_succ, List.getElem_cons_zero, Act.put, List.setIfInBounds_toArray, List.set_cons_zero, List.set_cons_succ]
    refine wpAnyH_take (i := 15) (v := .agg #[.int .i64 ar, .int .i64 an]) rfl (by kernel_rfl) (by kernel_rfl) (by kernel_rfl) (fun _ _ _ h => h) ?_ hS0 ?_
    · refine yieldsIf_load_mid ?_ 23 (.tmp 44) ?_ x 5 ?_ [.int .i64 ar, .int .i64 an] _ (fun w' hw => (HX.out w' hw).2.2.2) Tryd.underlying23 ?_ bal_info13
      · kernel_rfl
      · rfl
      · kernel_rfl
      · rfl
    try simp only [List.getElem_toArray, List.getElem_cons_succ, List.getElem_cons_zero, Act.put, List.setIfInBounds_toArray, List.set_cons_zero, List.set_cons_succ]
    refine wpAnyH_take (i := 16) (v := .pointer (some ⟨x, 7, none⟩)) rfl (by kernel_rfl) (by kernel_rfl) (by kernel_rfl) (fun _ _ _ h => h) (Or.inl ⟨by kernel_rfl, fun w' hSw => ?_⟩) hS0 ?_
    · go_simp
    try simp only [List.getElem_toArray, List.getElem_cons_succ, List.getElem_cons_zero, Act.put, List.setIfInBounds_toArray, List.set_cons_zero, List.set_cons_succ]
    refine wpAnyH_take (i := 17) (v := .slice A0 n0 c0) rfl (by kernel_rfl) (by kernel_rfl) (by kernel_rfl) (fun _ _ _ h => h) (Or.inl ⟨by kernel_rfl, fun w' hSw => ?_⟩) hS0 ?_
    · (have hcv := (HX.out w' hSw).2.1; go_simp)
    try simp only [List.getElem_toArray, List.getElem_cons_succ, List.getElem_cons_zero, Act.put, List.setIfInBounds_toArray, List.set_cons_zero, List.set_cons_succ]
    refine wpAnyH_ready (rs := [8]) (by kernel_rfl) (by simp) ?_
    refine AllReadyH.cons rfl (fun K hK => ?_) AllReadyH.nil
    go_simp
    refine (H3.out.1.rnd.promise_yes (fun m hm => HQ.out.1 m hm) H3.out.1.pos H3.out.2.2.2.2.1.at_ (by have := HQ.out.2.2.2.2.2; have := hBd.size; omega) (.inl (HQ.out.2.2.1 _ H3.out.1.oga)) (A 4) (H3.out.2.2.1.cell 4 (by decide)) HF.out.1 HF.out.2.1 HF.out.2.2.1 HF.out.2.2.2).mono ?_
    rintro e u1 ⟨rfl, lv', R1, F1⟩
    have hS1 : Blk u1 x 120 #[.int .i64 2, .int .i64 which, .int .i64 j, .int .i64 br, .int .i64 bn, .int .i64 ar, .int .i64 an, .slice A0 n0 c0] := hS0.fr F1 hS0.lt HP.out.2.2.2.2.2.2.1
    have D1 := H3.out.1.docR F1
    refine Shut.out hK _ _ hS1 (fun _ => ?_)
    clear hK K
    try simp only [List.getElem_toArray, List.getElem_cons_succ, List.getElem_cons_zero, Act.put, List.setIfInBounds_toArray, List.set_cons_zero, List.set_cons_succ]
    refine wpAnyH_ready (rs := [18]) (by kernel_rfl) (by simp) ?_
    refine AllReadyH.cons rfl (fun K hK => ?_) AllReadyH.nil
    go_simp
    refine (rpromise_yes u1 M1 gm n hs r pv2 dv lv2 D1 (fun m hm => Nat.lt_of_lt_of_le (HQ.out.1 m hm) F1.size) (by have := H3.out.1.tie.few; have := H3.out.1.doc.sz; omega) j br bn ar an lo hi _ led (H3.out.2.2.2.1.fr F1 (Nat.le_trans H3.out.2.2.2.2.2 hBd.size) (fun k k1 k2 hk => by have := HQ.out.2.1 k (by rcases hk with rfl | rfl; exact H3.out.1.rnd.mg; exact H3.out.1.rnd.mga); omega)) (Nat.le_trans H3.out.2.2.2.2.2 F1.size) HQ.out.2.1 (H3.out.1.tie.fits.1 ⟨HF.out.1, HF.out.2.1, j, rfl, HF.out.2.2.1, HF.out.2.2.2⟩)).mono ?_
    rintro e u2 ⟨rfl, hG⟩
    have F2 := hG.frame
    have hS2 : Blk u2 x 120 #[.int .i64 2, .int .i64 which, .int .i64 j, .int .i64 br, .int .i64 bn, .int .i64 ar, .int .i64 an, .slice A0 n0 c0] := hS1.fr F2 hS1.lt (fun e => by rcases e with e | e; exact HP.out.2.2.2.2.2.2.2.1 e; exact HP.out.2.2.2.2.2.2.2.2 _ e rfl)
    have F12 : Fr w2.drew.heap.size O w2.drew u2 := (F1.mono (Nat.le_refl _) (fun k _ hk => by rcases hk with rfl | rfl; exact H3.out.1.og; exact H3.out.1.oga)).trans (F2.mono F1.size (fun k _ hk => by rcases hk with rfl | hk; exact H3.out.1.ogm; exact H3.out.1.odv k hk))
    have H4 := Lib.hid (And.intro (H3.out.2.2.2.2.1.fr F12 (by have := HQ.out.2.2.2.2.2; have := hBd.size; omega) (fun k k1 _ hk => by have := HQ.out.2.2.1 k hk; omega)) (And.intro (H3.out.2.2.2.1.fr F12 (Nat.le_trans H3.out.2.2.2.2.2 hBd.size) (fun k k1 k2 hk => by have := HQ.out.2.1 k (H3.out.1.om k hk); omega)) (And.intro (show hi4 ≤ u2.heap.size by have := HQ.out.2.2.2.2.2; have := F12.size; have := hBd.size; omega) (show W.heap.size ≤ u2.heap.size by have := H2.out.2.1.size; have := F12.size; have := hBd.size; omega))))
    obtain ⟨q5, q6⟩ := H3.out.1.tie.heard (r := r) (ar := ar) (an := an) (l := led) HF.out.2.2.1 HF.out.2.2.2
    rw [q5] at hG
    have hp := Played.both H3.out.1 R1 F1 q6 hG
    have H5 := Lib.hid hp
    clear hp hG R1 D1 q5 q6 F2
    refine Shut.out hK _ _ hS2 (fun _ => ?_)
    clear hK K
    try simp only [List.getElem_toArray, List.getElem_cons_succ, List.getElem_cons_zero, Act.put, List.setIfInBounds_toArray, List.set_cons_zero, List.set_cons_succ]
    refine wpAnyH_take (i := 19) (v := .bool true) rfl (by kernel_rfl) (by kernel_rfl) (by kernel_rfl) (fun _ _ _ h => h) (Or.inl ⟨by kernel_rfl, fun w' hSw => ?_⟩) hS2 ?_
    · go_simp
    try simp only [List.getElem_toArray, List.getElem_cons_succ, List.getElem_cons_zero, Act.put, List.setIfInBounds_toArray, List.set_cons_zero, List.set_cons_succ]
    refine wpAnyH_take (i := 20) (v := .bool true) rfl (by kernel_rfl) (by kernel_rfl) (by kernel_rfl) (fun _ _ _ h => h) (Or.inl ⟨by kernel_rfl, fun w' hSw => ?_⟩) hS2 ?_
    · go_simp
    try simp only [List.getElem_toArray, List.getElem_cons_succ, List.getElem_cons_zero, Act.put, List.setIfInBounds_toArray, List.set_cons_zero, List.set_cons_succ]
    refine wpAnyH_take (i := 21) (v := .slice A4 n4 c4) rfl (by kernel_rfl) (by kernel_rfl) (by kernel_rfl) (fun _ _ _ h => h) (Or.inl ⟨by kernel_rfl, fun w' hSw => ?_⟩) hS2 ?_
    · go_simp
    try simp only [List.getElem_toArray, List.getElem_cons_succ, List.getElem_cons_zero, Act.put, List.setIfInBounds_toArray, List.set_cons_zero, List.set_cons_succ]
    refine wpAnyH_take (i := 22) (v := .pointer (some ⟨x, 7, none⟩)) rfl (by kernel_rfl) (by kernel_rfl) (by kernel_rfl) (fun _ _ _ h => h) (Or.inl ⟨by kernel_rfl, fun w' hSw => ?_⟩) hS2 ?_
    · go_simp
    try simp only [List.getElem_toArray, List.getElem_cons_succ, List.getElem_cons_zero, Act.put, List.setIfInBounds_toArray, List.set_cons_zero, List.set_cons_succ]
    refine wpAnyH_take (i := 23) (v := .slice A0 n0 c0) rfl (by kernel_rfl) (by kernel_rfl) (by kernel_rfl) (fun _ _ _ h => h) (Or.inl ⟨by kernel_rfl, fun w' hSw => ?_⟩) hS2 ?_
    · (have hcv := (HX.out w' hSw).2.1; go_simp)
    try simp only [List.getElem_toArray, List.getElem_cons_succ, List.getElem_cons_zero, Act.put, List.setIfInBounds_toArray, List.set_cons_zero, List.set_cons_succ]
    refine wpAnyH_ready (rs := [24]) (by kernel_rfl) (by simp) ?_
    refine AllReadyH.cons rfl (fun K hK => ?_) AllReadyH.nil
    go_simp
    refine (same_any u2 _ _ _ _ _ _ led led H4.out.1.at_ H4.out.2.1 H4.out.2.2.1 (Nat.le_trans HH.out.2.2.2.1 H4.out.2.2.2)).mono ?_
    rintro e u3 ⟨he, d3⟩
    rw [tf_iff.2 (rfl : led = led)] at he
    subst he
    have hS3 : Blk u3 x 120 #[.int .i64 2, .int .i64 which, .int .i64 j, .int .i64 br, .int .i64 bn, .int .i64 ar, .int .i64 an, .slice A0 n0 c0] := hS2.below d3 hS2.lt
    refine Shut.out hK _ _ hS3 (fun _ => ?_)
    clear hK K
    try simp only [List.getElem_toArray, List.getElem_cons_succ, List.getElem_cons_zero, Act.put, List.setIfInBounds_toArray, List.set_cons_zero, List.set_cons_succ]
    refine wpAnyH_take (i := 25) (v := .bool true) rfl (by kernel_rfl) (by kernel_rfl) (by kernel_rfl) (fun _ _ _ h => h) (Or.inl ⟨by kernel_rfl, fun w' hSw => ?_⟩) hS3 ?_
    · go_simp
    try simp only [List.getElem_toArray, List.getElem_cons_succ, List.getElem_cons_zero, Act.put, List.setIfInBounds_toArray, List.set_cons_zero, List.set_cons_succ]
    refine wpAnyH_take (i := 26) (v := .bool true) rfl (by kernel_rfl) (by kernel_rfl) (by kernel_rfl) (fun _ _ _ h => h) (Or.inl ⟨by kernel_rfl, fun w' hSw => ?_⟩) hS3 ?_
    · go_simp
    try simp only [List.getElem_toArray, List.getElem_cons_succ, List.getElem_cons_zero, Act.put, List.setIfInBounds_toArray, List.set_cons_zero, List.set_cons_succ]
    refine wpAnyH_done (by kernel_rfl) ?_ _
    go_wp2_with (fail)
    go_meet
    have hp5 := H5.out.lift hBd (fun _ h => h) (fun _ h => .inl h)
    exact ⟨rfl, H4.out.1.fr (Fr.of_below d3 (fun _ => False)) H4.out.2.2.1 (fun _ _ _ h => h), Nat.le_trans H4.out.2.2.1 d3.size, hp5.on d3⟩
  case rest =>
    obtain ⟨rfl, o5, hh5, hPl⟩ := hcut
    obtain ⟨w3, hw3⟩ : ∃ w3, w3 = wc := ⟨_, rfl⟩
    rw [← hw3] at o5 hh5 hPl ⊢
    clear hw3
    have H5 := Lib.hid (And.intro o5 (And.intro hh5 hPl))
    clear o5 hh5 hPl
    go_upto_block 1 with (fail)
    go_cut [] (fun wx => Fr w3.heap.size (fun k => lo4 ≤ k ∧ k < hi4) w3 wx)
    case first =>
      rcases Nat.eq_zero_or_pos led.length with h0 | h0
      · have hn0 : n4 = 0 := by rw [H2.out.2.2]; exact h0
        subst hn0
        go_wp2_with (fail)
        go_loopw [58] (fun i wr => i = .int .i64 0 ∧ Fr w3.heap.size (fun k => lo4 ≤ k ∧ k < hi4) w3 wr) (fun _ _ => 0)
        case atStart => exact ⟨rfl, Fr.refl _ _ _⟩
        case round =>
          obtain ⟨rfl, hF⟩ := hrel
          go_wp2_with (fail)
          go_meet
          exact hF
      · obtain ⟨q, c, H, hv, hlo, hhi, hsp⟩ := H5.out.1.sp h0
        have hA4 : A4 = some ⟨q, 0, none⟩ := by injection hv
        subst hA4
        obtain ⟨_, _, hv', _, hc1, hc2⟩ := H5.out.1.at_.form
        have hn63 : n4 ≤ 9223372036854775807 := by rw [H2.out.2.2]; omega
        clear hv hv' hc1 hc2
        have HN := Lib.hid H2.out.2.2
        go_wp2_with (fail)
        go_loopw [58] (fun i wr => ∃ k : Nat, k ≤ n4 ∧ i = .int .i64 k ∧ SpAt wr lo4 hi4 q H led ∧ Fr w3.heap.size (fun k => lo4 ≤ k ∧ k < hi4) w3 wr) (fun i _ => n4 - (intOf i).toNat)
        case atStart => exact ⟨0, Nat.zero_le _, rfl, hsp, Fr.refl _ _ _⟩
        case round =>
          obtain ⟨k, hk, rfl, hs, hF⟩ := hrel
          by_cases hlt : k < n4
          · have hk1 : k < led.length := by rw [← HN.out]; exact hlt
            obtain ⟨cs, hB, hq⟩ := hs
            obtain ⟨q1, q2, q3, q4, q5⟩ := hq k _ (List.getElem?_eq_getElem hk1)
            have HS : SpAt wr lo4 hi4 q H led := ⟨cs, hB, hq⟩
            clear hq
            obtain ⟨m, hm⟩ : ∃ m, m = led[k].parts.length := ⟨_, rfl⟩
            rw [← hm] at q2 q3 q5
            obtain ⟨A, hA⟩ : ∃ A, A = (H k).1 := ⟨_, rfl⟩
            obtain ⟨cc, hcc⟩ : ∃ cc, cc = (H k).2 := ⟨_, rfl⟩
            rw [← hA] at q2 q5
            rw [← hcc] at q2 q3 q4
            have c15 : wr.cell? ⟨q, k * 18 + 15, none⟩ = some (.slice A m cc) := (hB.cell _).trans q2
            have hm63 : m ≤ 9223372036854775807 := by simp only [maxLen] at q4; omega
            have HM := Lib.hid hm
            have HA := Lib.hid hA
            clear hm hA hcc q2 q5 q3 q4 hB
            obtain ⟨wo, hwo⟩ : ∃ wo : World, wo = wr := ⟨_, rfl⟩
            rw [← hwo] at HS hF c15 ⊢
            clear hwo
            go_wp2_with (fail)
            go_loopw [67] (fun i wi => ∃ j : Nat, j ≤ m ∧ i = .int .i64 j ∧ wi.cell? ⟨q, k * 18 + 15, none⟩ = some (.slice A m cc) ∧ SpAt wi lo4 hi4 q H led ∧ Fr w3.heap.size (fun k => lo4 ≤ k ∧ k < hi4) w3 wi) (fun i _ => m - (intOf i).toNat)
            case atStart => exact ⟨0, Nat.zero_le _, rfl, c15, HS, hF⟩
            case round =>
              obtain ⟨j, hj, rfl, c15', hs', hF'⟩ := hrel
              by_cases hjm : j < m
              · obtain ⟨cs', hB', hq'⟩ := hs'
                obtain ⟨p1, p2, p3, p4, p5⟩ := hq' k _ (List.getElem?_eq_getElem hk1)
                have HS' : SpAt wr lo4 hi4 q H led := ⟨cs', hB', hq'⟩
                clear hq' p1 p2 p3 p4
                obtain ⟨g', ds, e1, e2, e3, e4, e5⟩ := p5 (by rw [← HM.out]; omega)
                rw [← HA.out] at e1
                subst e1
                have hg' := e4.lt
                have hne : ¬ q = g' := hB'.ne_type e4 (by decide)
                have hds : j < ds.size := by rw [← HM.out] at e5; omega
                have cj : wr.cell? ⟨g', j, none⟩ = some ds[j] := (e4.cell j).trans (Array.getElem?_eq_getElem hds)
                have fj := e4.frozen j
                clear hB' p5 e5 c15
                have e4t := HS'.set_part (j := j) e4 (.int .i64 (-3))
                have hFt := hF'.setCell (p := ⟨g', j, none⟩) (.inl ⟨e2, e3⟩) (.int .i64 (-3))
                have ct : (wr.setCell ⟨g', j, none⟩ (.int .i64 (-3))).cell? ⟨q, k * 18 + 15, none⟩ = some (.slice (some ⟨g', 0, none⟩) m cc) := (((Fr.refl wr.heap.size (· = g') wr).setCell (p := ⟨g', j, none⟩) (.inl rfl) (.int .i64 (-3))).cell (p := ⟨q, k * 18 + 15, none⟩) (World.block_lt_of_cell? wr _ c15') hne).trans c15'
                have CT := Lib.hid (And.intro ct (And.intro e4t hFt))
                clear ct e4t hFt
                go_wp2_with (fail)
                go_roundw
                case rel => exact ⟨j + 1, by omega, by go_num, CT.out.1, CT.out.2.1, CT.out.2.2⟩
                case measure => simp [intOf]; omega
              · have hjm' : j = m := by omega
                subst hjm'
                obtain ⟨cs', hB', hq'⟩ := hs'
                obtain ⟨p1, _⟩ := hq' k _ (List.getElem?_eq_getElem hk1)
                have HS' : SpAt wr lo4 hi4 q H led := ⟨cs', hB', hq'⟩
                have c0 : wr.cell? ⟨q, k * 18, none⟩ = some cs'[k * 18] := (hB'.cell _).trans (Array.getElem?_eq_getElem (by omega))
                have f0 := hB'.frozen (k * 18)
                clear hq' hB'
                go_wp2_with (fail)
                go_roundw
                case rel => exact ⟨k + 1, by omega, by go_num, HS'.set_kind k _, hF'.setCell (p := ⟨q, k * 18, none⟩) (.inl ⟨hlo, hhi⟩) _⟩
                case measure => simp [intOf]; omega
          · have hkn : k = n4 := by omega
            subst hkn
            go_wp2_with (fail)
            go_meet
            exact hF
    case rest =>
      have hpl := H5.out.2.2.after (w0 := w) (M0 := M) hcut (fun k hk => by rw [HQ.out.2.2.2.1]; exact .inr hk) (fun k hk ho => by have := HQ.out.2.2.1 k ho; omega) (fun k hk => by have := HQ.out.2.2.2.2.2; omega) (fun k hk ho => by have := HQ.out.2.2.1 k ho; omega) (fun k hk => by have := HQ.out.2.2.2.2.1; have := HP.out.2.2.1.size; omega) (HP.out.2.2.1.trans (H2.out.2.1.mono HP.out.2.2.1.size)) (fun k hk => by rw [HQ.out.2.2.2.1]; exact .inl hk) (fun k hk => by
        rw [HQ.out.2.2.2.1] at hk
        exact hk.imp id (fun e => by have := HQ.out.2.2.2.2.1; have := HP.out.2.2.1.size; omega))
      have HR := Lib.hid hpl
      clear hpl hcut
      go_wp2_with (fail)
      go_ret
      exact ⟨rfl, HR.out⟩
end
end Go.Proofs.YtnlncfjibbdimaaDoor
