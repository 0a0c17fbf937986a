/-
  The walk of bollardlaw09.play: one call by the acceptor and by the document's.
-/
import Derived.Test.YtnlncfjibbdimaaDoorActsL
import Derived.Test.YtnlncfjibbdimaaDoorNum
import Derived.Test.YtnlncfjibbdimaaDoorSpoil
import Derived.Deep.DeepCutAuto
import Derived.Lib.QuietBelow
namespace Go.Proofs.YtnlncfjibbdimaaDoor
open Go.RowKit
set_option linter.unusedSimpArgs false
set_option linter.unusedVariables false

/-- The number of the errors that an acceptor answers with. -/
theorem num_errq {w : World} {B : Nat} {A : Nat → Addr} (h : Errs w B A G18) (hB : B ≤ w.heap.size) {q : Nat} (hq : q = 0 ∨ q = 2 ∨ q = 12 ∨ q = 10) : Calls Tryd.prog 64 #[errq A q] w (NumPost q w) := by
  rcases hq with rfl | rfl | rfl | rfl
  · exact num_nil w
  · exact num_any h hB 1 0 rfl
  · exact num_any h hB 11 3 rfl
  · exact num_any h hB 9 4 rfl
theorem refuse_q (s : Acc) (r n : Int) : s.refuse r n = 0 ∨ s.refuse r n = 2 ∨ s.refuse r n = 12 ∨ s.refuse r n = 10 := by
  rcases refuse_cases s r n with ⟨_, h⟩ | ⟨_, _, h⟩ | ⟨_, _, h⟩ <;> simp [h]
theorem clm_q (s : Acc) (r : Int) : s.clmQ r = 0 ∨ s.clmQ r = 2 ∨ s.clmQ r = 12 ∨ s.clmQ r = 10 := by
  unfold Acc.clmQ; split <;> simp

/-- Both acceptors, in one state. -/
structure Both (w : World) (B ga gm : Nat) (s : Acc) : Prop where
  a : AccIn w B ga 156 s
  m : AccIn w B gm 59 s
  good : s.Good

def PlayPost (w : World) (B ga gm : Nat) (e : Ending) (w' : World) : Prop :=
  e = .returned (.bool true) ∧ Fr w.heap.size (fun k => k = ga ∨ k = gm) w w' ∧ ∃ s', Both w' B ga gm s'

/-- What a call's world tells: the listed errors lie below both acceptors. -/
structure Sure (w : World) (E : Nat) (A : Nat → Addr) (ga gm : Nat) : Prop where
  errs : Errs w E A G18
  lea : E ≤ ga
  lem : E ≤ gm
  ne : ga ≠ gm

theorem Sure.fr {w w' : World} {E B ga gm : Nat} {A : Nat → Addr} (h : Sure w E A ga gm) (f : Fr B (fun k => k = ga ∨ k = gm) w w') (hB : E ≤ B) : Sure w' E A ga gm :=
  ⟨h.errs.fr f hB (fun k h1 h2 => by have := h.lea; have := h.lem; omega), h.lea, h.lem, h.ne⟩

/-- Within a call of play, begun in world w: the acceptor in state sa, the document's in sm. -/
structure PlayAt (w : World) (E B ga gm : Nat) (A : Nat → Addr) (la ha lm hm : Nat) (sa sm : Acc) (wr : World) : Prop where
  a : AccL wr B la ha ga 156 sa
  m : AccL wr B lm hm gm 59 sm
  fr : Fr w.heap.size (fun k => k = ga ∨ k = gm) w wr
  sure : Sure wr E A ga gm
  hB : B ≤ w.heap.size

section
variable {w wr w' : World} {E B B' ga gm la ha lm hm lo hi : Nat} {A : Nat → Addr} {sa sm s' : Acc}
theorem PlayAt.start {s : Acc} (h : Both w B ga gm s) (hs : Sure w E A ga gm) : PlayAt w E B ga gm A B w.heap.size B w.heap.size s s w :=
  ⟨h.a.l, h.m.l, Fr.refl _ _ _, hs, h.a.2.1⟩
theorem PlayAt.E_le (h : PlayAt w E B ga gm A la ha lm hm sa sm wr) : E ≤ w.heap.size := by have := h.a.1; have := h.hB; have := h.sure.lea; omega
theorem PlayAt.cell (h : PlayAt w E B ga gm A la ha lm hm sa sm wr) (g : Nat) (hg : g ∈ G18) : wr.cell? ⟨g, 0, none⟩ = some (errv (A g)) := h.sure.errs.cell g hg
theorem PlayAt.below (h : PlayAt w E B ga gm A la ha lm hm sa sm wr) (f : Below B' wr w') (hB : wr.heap.size ≤ B') : PlayAt w E B ga gm A la ha lm hm sa sm w' :=
  ⟨h.a.below f hB, h.m.below f hB, h.fr.trans (Fr.of_below (f.mono (Nat.le_trans h.fr.size hB)) _), h.sure.fr (Fr.of_below f _) (Nat.le_trans h.E_le (Nat.le_trans h.fr.size hB)), h.hB⟩
theorem PlayAt.alloc (h : PlayAt w E B ga gm A la ha lm hm sa sm wr) (o : Obj) : PlayAt w E B ga gm A la ha lm hm sa sm (wr.alloc o) := h.below ((Below.refl _ _).alloc (Nat.le_refl _) o) (Nat.le_refl _)
theorem PlayAt.drew (h : PlayAt w E B ga gm A la ha lm hm sa sm wr) : PlayAt w E B ga gm A la ha lm hm sa sm wr.drew := h.below (Below.refl wr.heap.size wr).drew (Nat.le_refl _)
theorem PlayAt.actA (h : PlayAt w E B ga gm A la ha lm hm sa sm wr) (f : Fr wr.heap.size (· = ga) wr w') {la' ha' : Nat} (ha : AccL w' B la' ha' ga 156 s') : PlayAt w E B ga gm A la' ha' lm hm s' sm w' :=
  ⟨ha, h.m.fr f (Nat.le_refl _) (Ne.symm h.sure.ne) (fun k h1 h2 h3 => by have := h.m.2.1; have := h.a.1; omega), h.fr.step f h.fr.size (fun k _ hk => .inl hk), h.sure.fr (f.mono (Nat.le_refl _) (fun k _ hk => .inl hk)) (Nat.le_trans h.E_le h.fr.size), h.hB⟩
theorem PlayAt.actM (h : PlayAt w E B ga gm A la ha lm hm sa sm wr) (f : Fr wr.heap.size (· = gm) wr w') {lm' hm' : Nat} (hm : AccL w' B lm' hm' gm 59 s') : PlayAt w E B ga gm A la ha lm' hm' sa s' w' :=
  ⟨h.a.fr f (Nat.le_refl _) h.sure.ne (fun k h1 h2 h3 => by have := h.a.2.1; have := h.m.1; omega), hm, h.fr.step f h.fr.size (fun k _ hk => .inr hk), h.sure.fr (f.mono (Nat.le_refl _) (fun k _ hk => .inr hk)) (Nat.le_trans h.E_le h.fr.size), h.hB⟩
theorem PlayAt.spoil (h : PlayAt w E B ga gm A la ha lm hm sa sm wr) (f : Fr wr.heap.size (fun k => lo ≤ k ∧ k < hi) wr w') (hlo : w.heap.size ≤ lo) (h1 : ha ≤ lo ∨ hi ≤ la) (h2 : hm ≤ lo ∨ hi ≤ lm) : PlayAt w E B ga gm A la ha lm hm sa sm w' := by
  have hB := h.hB
  have ha := h.a.1
  have hm := h.m.1
  have hE := h.E_le
  have hn : Fr w.heap.size (fun _ => False) wr w' := f.mono h.fr.size (fun k q1 q2 => by omega)
  refine ⟨h.a.fr f (Nat.le_refl _) (by omega) (fun k q1 q2 q3 => by omega), h.m.fr f (Nat.le_refl _) (by omega) (fun k q1 q2 q3 => by omega), h.fr.trans (hn.mono (Nat.le_refl _) (fun _ _ h => h.elim)), ?_, hB⟩
  exact h.sure.fr (hn.mono (Nat.le_refl _) (fun _ _ h => h.elim)) hE
theorem PlayAt.done {e : Ending} (h : PlayAt w E B ga gm A la ha lm hm s' s' wr) (hg : s'.Good) (he : e = .returned (.bool true)) : PlayPost w B ga gm e wr :=
  ⟨he, h.fr, s', h.a.in_ (Nat.le_trans h.hB h.fr.size), h.m.in_ (Nat.le_trans h.hB h.fr.size), hg⟩
end

section
variable {w : World} {E B ga gm : Nat} {A : Nat → Addr} {s : Acc} (kind which r n : Int) (lv : Value)

set_option maxHeartbeats 800000 in
theorem play_claim (h : Both w B ga gm s) (hs : Sure w E A ga gm) :
    Calls Tryd.prog 29 #[.pointer (some ⟨ga, 0, none⟩), .pointer (some ⟨gm, 0, none⟩), .agg #[.int .i64 3, .int .i64 which, .int .i64 r, .int .i64 n, lv]] w (PlayPost w B ga gm) := by
  have P0 := PlayAt.start h hs
  have hgood := h.good
  have hBw := h.a.2.1
  have hga := h.a.1
  have hgm := h.m.1
  clear h hs
  go_enter Tryd.func29, Tryd.ntmps29
  go_upto_region 1 with (fail)
  refine wp_letter (fun W => PlayAt w E B ga gm A B w.heap.size B w.heap.size s s W ∧ Blk W w.heap.size 61 #[.int .i64 3, .int .i64 which, .int .i64 r, .int .i64 n, lv]) ⟨P0.alloc _, Blk.new _ _ _⟩ ?_
  rintro w1 ⟨P1, hX1⟩
  obtain ⟨x, hx⟩ : ∃ x, x = w.heap.size := ⟨_, rfl⟩
  have hxB : B ≤ x := by omega
  rw [← hx] at hX1 ⊢
  clear P0 hx hBw
  have cX := hX1.cell
  go_wp2_with (fail)
  refine (claim_l (A := A) P1.a hgood (P1.cell 4 (by decide))).mono ?_
  rintro e w2 ⟨rfl, f2, a2⟩
  have P2 := P1.actA f2 a2
  have hX2 := hX1.fr f2 hX1.lt (by omega)
  clear f2 a2 P1 hX1 cX
  obtain ⟨q, hq⟩ : ∃ q, q = s.clmQ r := ⟨_, rfl⟩
  have hqq := clm_q s r
  rw [← hq] at hqq ⊢
  obtain ⟨ev, hev⟩ : ∃ ev, ev = errq A q := ⟨_, rfl⟩
  rw [← hev]
  have HEV := Lib.hid hev
  obtain ⟨R, hR⟩ : ∃ R, R = s.clmR r := ⟨_, rfl⟩
  obtain ⟨N, hN⟩ : ∃ N, N = s.clmN r := ⟨_, rfl⟩
  rw [← hR, ← hN]
  have HR := Lib.hid (And.intro hq (And.intro hR hN))
  clear hev hq hR hN
  go_upto_region 15 with (fail)
  refine wp_letter (fun W => PlayAt w E B ga gm A B w.heap.size B w.heap.size (s.clm r) s W ∧ Blk W x 61 #[.int .i64 3, .int .i64 which, .int .i64 r, .int .i64 n, lv] ∧ Blk W w2.heap.size 23 #[.int .i64 R, .int .i64 N]) ⟨P2.alloc _, hX2.alloc _, Blk.new _ _ _⟩ ?_
  rintro w3 ⟨P3, hX3, hY3⟩
  obtain ⟨y, hy⟩ : ∃ y, y = w2.heap.size := ⟨_, rfl⟩
  have hyx : x < y := by have := hX2.lt; omega
  rw [← hy] at hY3 ⊢
  clear P2 hX2 hy
  have cX := hX3.cell
  go_wp2_with (fail)
  refine (rclaim_l P3.m hgood).mono ?_
  rintro e w4 ⟨he, f4, a4⟩
  rw [← HR.out.1, ← HR.out.2.1, ← HR.out.2.2] at he
  subst he
  have P4 := P3.actM f4 a4
  have hY4 := hY3.fr f4 hY3.lt (by omega)
  clear f4 a4 P3 hX3 hY3 cX
  go_upto_region 16 with (fail)
  refine wp_letter (fun W => PlayAt w E B ga gm A B w.heap.size B w.heap.size (s.clm r) (s.clm r) W ∧ Blk W y 23 #[.int .i64 R, .int .i64 N] ∧ Blk W w4.heap.size 23 #[.int .i64 R, .int .i64 N]) ⟨P4.alloc _, hY4.alloc _, Blk.new _ _ _⟩ ?_
  rintro w5 ⟨P5, hY5, hZ5⟩
  obtain ⟨z, hz⟩ : ∃ z, z = w4.heap.size := ⟨_, rfl⟩
  rw [← hz] at hZ5 ⊢
  clear P4 hY4 hz
  have cY := hY5.cell
  have cZ := hZ5.cell
  have hE5 : E ≤ w5.heap.size := Nat.le_trans P5.E_le P5.fr.size
  have knum := num_errq P5.sure.errs hE5 hqq
  rw [← HEV.out] at knum
  go_wp2_with (go_at_call 64; refine knum.mono ?_; rintro e w6 ⟨rfl, b6⟩)
  go_ret
  exact (P5.below b6 (Nat.le_refl _)).done (hgood.clm r) rfl

set_option maxHeartbeats 1600000 in
theorem play_prepare (h : Both w B ga gm s) (hs : Sure w E A ga gm) :
    Calls Tryd.prog 29 #[.pointer (some ⟨ga, 0, none⟩), .pointer (some ⟨gm, 0, none⟩), .agg #[.int .i64 1, .int .i64 which, .int .i64 r, .int .i64 n, lv]] w (PlayPost w B ga gm) := by
  have P0 := PlayAt.start h hs
  have hgood := h.good
  have hBw := h.a.2.1
  have hga := h.a.1
  have hgm := h.m.1
  clear h hs
  go_enter Tryd.func29, Tryd.ntmps29
  go_upto_region 1 with (fail)
  refine wp_letter (fun W => PlayAt w E B ga gm A B w.heap.size B w.heap.size s s W ∧ Blk W w.heap.size 61 #[.int .i64 1, .int .i64 which, .int .i64 r, .int .i64 n, lv]) ⟨P0.alloc _, Blk.new _ _ _⟩ ?_
  rintro w1 ⟨P1, hX1⟩
  obtain ⟨x, hx⟩ : ∃ x, x = w.heap.size := ⟨_, rfl⟩
  have hxB : B ≤ x := by omega
  rw [← hx] at hX1 P1 P0 ⊢
  have hxw := Lib.hid hx
  clear P0 hx
  have cX := hX1.cell
  go_wp2_with (fail)
  refine (prepare_l (A := A) P1.a (P1.cell 0 (by decide)) (P1.cell 3 (by decide))).mono ?_
  rintro e w2 ⟨C, k, c, rfl, f2, a2, o2⟩
  have P2 := P1.actA f2 a2
  have hX2 := hX1.fr f2 hX1.lt (by omega)
  have hw1 : x ≤ w1.heap.size := Nat.le_of_lt hX1.lt
  obtain ⟨lo, hlo⟩ : ∃ lo, lo = w1.heap.size := ⟨_, rfl⟩
  obtain ⟨hi, hhi⟩ : ∃ hi, hi = w2.heap.size := ⟨_, rfl⟩
  rw [← hlo] at hw1 o2
  rw [← hhi] at o2
  have hhi2 : hi ≤ w2.heap.size := by omega
  clear f2 a2 P1 hX1 cX hlo hhi
  obtain ⟨q, hq⟩ : ∃ q, q = s.refuse r n := ⟨_, rfl⟩
  have hqq := refuse_q s r n
  rw [← hq] at hqq ⊢
  obtain ⟨ev, hev⟩ : ∃ ev, ev = errq A q := ⟨_, rfl⟩
  rw [← hev]
  have HEV := Lib.hid hev
  obtain ⟨R, hR⟩ : ∃ R, R = s.toldR r n := ⟨_, rfl⟩
  obtain ⟨N, hN⟩ : ∃ N, N = s.toldN r n := ⟨_, rfl⟩
  obtain ⟨L, hL⟩ : ∃ L, L = s.toldL r n := ⟨_, rfl⟩
  rw [← hR, ← hN]
  rw [← hL] at o2
  have HR := Lib.hid (And.intro hq (And.intro hR (And.intro hN hL)))
  clear hev hq hR hN hL
  go_upto_region 4 with (fail)
  refine wp_letter (fun W => PlayAt w E B ga gm A B x B x (s.prep r n) s W ∧ Blk W x 61 #[.int .i64 1, .int .i64 which, .int .i64 r, .int .i64 n, lv] ∧ Blk W w2.heap.size 23 #[.int .i64 R, .int .i64 N] ∧ OwnLed W lo hi (.slice C k c) L ∧ hi ≤ W.heap.size)
    ⟨P2.alloc _, hX2.alloc _, Blk.new _ _ _, o2.fr (Fr.of_below ((Below.refl _ _).alloc (Nat.le_refl _) _) (fun _ => False)) hhi2 (fun _ _ _ h => h), by simp; omega⟩ ?_
  rintro w3 ⟨P3, hX3, hY3, o3, hh3⟩
  obtain ⟨y, hy⟩ : ∃ y, y = w2.heap.size := ⟨_, rfl⟩
  have hyx : x < y := by have := hX2.lt; omega
  rw [← hy] at hY3 ⊢
  clear P2 hX2 o2 hhi2 hy
  have cX := hX3.cell
  go_wp2_with (fail)
  refine (rprepare_l P3.m).mono ?_
  rintro e w4 ⟨C', k', c', he, f4, a4, l4⟩
  rw [← HR.out.1, ← HR.out.2.1, ← HR.out.2.2.1] at he
  rw [← HR.out.2.2.2] at l4
  subst he
  have P4 := P3.actM f4 a4
  have hY4 := hY3.fr f4 hY3.lt (by omega)
  have o4 := o3.fr f4 hh3 (fun k h1 h2 h3 => by omega)
  have hh4 := Nat.le_trans hh3 f4.size
  clear f4 a4 P3 hX3 hY3 cX o3 hh3
  have hxs : x ≤ w4.heap.size := by rw [hxw.out]; exact P4.fr.size
  go_upto_region 5 with (fail)
  refine wp_letter (fun W => PlayAt w E B ga gm A B x B x (s.prep r n) (s.prep r n) W ∧ Blk W y 23 #[.int .i64 R, .int .i64 N] ∧ Blk W w4.heap.size 23 #[.int .i64 R, .int .i64 N] ∧ OwnLed W lo hi (.slice C k c) L ∧ hi ≤ W.heap.size ∧ LedAt W B x (.slice C' k' c') L ∧ x ≤ W.heap.size)
    ⟨P4.alloc _, hY4.alloc _, Blk.new _ _ _, o4.fr (Fr.of_below ((Below.refl _ _).alloc (Nat.le_refl _) _) (fun _ => False)) hh4 (fun _ _ _ h => h), by simp; omega,
     l4.fr (Fr.of_below ((Below.refl _ _).alloc (Nat.le_refl _) _) (fun _ => False)) hxs (fun _ _ _ h => h), by simp; omega⟩ ?_
  rintro w5 ⟨P5, hY5, hZ5, o5, hh5, l5, hx5⟩
  obtain ⟨z, hz⟩ : ∃ z, z = w4.heap.size := ⟨_, rfl⟩
  rw [← hz] at hZ5 ⊢
  clear P4 hY4 hz o4 hh4 l4 hxs
  have cY := hY5.cell
  have cZ := hZ5.cell
  have hE5 : E ≤ w5.heap.size := Nat.le_trans P5.E_le P5.fr.size
  have ksame := same_any w5 _ _ _ _ _ _ L L o5.at_ l5 hh5 hx5
  rw [tf_iff.2 (rfl : L = L)] at ksame
  go_wp2_with (first
    | (go_at_call 59; refine ksame.mono ?_; rintro e w6 ⟨rfl, b6⟩
       have P6 := P5.below b6 (Nat.le_refl _)
       have o6 := o5.fr (Fr.of_below b6 (fun _ => False)) hh5 (fun _ _ _ h => h)
       have hh6 := Nat.le_trans hh5 b6.size
       have knum := num_errq P6.sure.errs (Nat.le_trans hE5 b6.size) hqq
       rw [← HEV.out] at knum
       clear P5 o5 hh5 l5 hx5 ksame b6)
    | (go_at_call 64; refine knum.mono ?_; rintro e w7 ⟨rfl, b7⟩
       have P7 := P6.below b7 (Nat.le_refl _)
       have o7 := o6.fr (Fr.of_below b7 (fun _ => False)) hh6 (fun _ _ _ h => h))
    | (go_at_call 86; refine (spoil_any _ lo hi _ L o7).mono ?_; rintro e w8 ⟨rfl, f8⟩))
  go_ret
  exact (P7.spoil f8 (by have := hxw.out; omega) (.inl (by omega)) (.inl (by omega))).done (hgood.prep r n) rfl

set_option maxHeartbeats 1600000 in
theorem play_ask (k1 : kind ≠ 1) (k2 : kind ≠ 2) (k3 : kind ≠ 3) (h : Both w B ga gm s) (hs : Sure w E A ga gm) :
    Calls Tryd.prog 29 #[.pointer (some ⟨ga, 0, none⟩), .pointer (some ⟨gm, 0, none⟩), .agg #[.int .i64 kind, .int .i64 which, .int .i64 r, .int .i64 n, lv]] w (PlayPost w B ga gm) := by
  have P0 := PlayAt.start h hs
  have hgood := h.good
  have hBw := h.a.2.1
  have hga := h.a.1
  have hgm := h.m.1
  clear h hs
  go_enter Tryd.func29, Tryd.ntmps29
  go_upto_region 1 with (fail)
  refine wp_letter (fun W => PlayAt w E B ga gm A B w.heap.size B w.heap.size s s W ∧ Blk W w.heap.size 61 #[.int .i64 kind, .int .i64 which, .int .i64 r, .int .i64 n, lv]) ⟨P0.alloc _, Blk.new _ _ _⟩ ?_
  rintro w1 ⟨P1, hX1⟩
  obtain ⟨x, hx⟩ : ∃ x, x = w.heap.size := ⟨_, rfl⟩
  have hxB : B ≤ x := by omega
  rw [← hx] at hX1 P1 P0 ⊢
  have hxw := Lib.hid hx
  clear P0 hx
  have cX := hX1.cell
  have k1' : ¬ kind = 1 := k1
  have k2' : ¬ kind = 2 := k2
  have k3' : ¬ kind = 3 := k3
  clear k1 k2 k3
  go_wp2_with (fail)
  refine (accepted_l P1.a).mono ?_
  rintro e w2 ⟨C, k, c, rfl, b2, o2⟩
  have P2 := P1.below b2 (Nat.le_refl _)
  have hw1 : x ≤ w1.heap.size := Nat.le_of_lt hX1.lt
  obtain ⟨lo, hlo⟩ : ∃ lo, lo = w1.heap.size := ⟨_, rfl⟩
  obtain ⟨hi, hhi⟩ : ∃ hi, hi = w2.heap.size := ⟨_, rfl⟩
  rw [← hlo] at hw1 o2
  rw [← hhi] at o2
  have hhi2 : hi ≤ w2.heap.size := by omega
  clear b2 P1 hX1 cX hlo hhi
  go_upto_region 18 with (fail)
  refine wp_letter (fun W => PlayAt w E B ga gm A B x B x s s W ∧ Blk W w2.heap.size 23 #[.int .i64 s.ar, .int .i64 s.an] ∧ OwnLed W lo hi (.slice C k c) s.led ∧ hi ≤ W.heap.size)
    ⟨P2.alloc _, Blk.new _ _ _, o2.fr (Fr.of_below ((Below.refl _ _).alloc (Nat.le_refl _) _) (fun _ => False)) hhi2 (fun _ _ _ h => h), by simp; omega⟩ ?_
  rintro w3 ⟨P3, hY3, o3, hh3⟩
  obtain ⟨y, hy⟩ : ∃ y, y = w2.heap.size := ⟨_, rfl⟩
  rw [← hy] at hY3 ⊢
  clear P2 o2 hhi2 hy
  obtain ⟨_, _, hx3, vm, hbm, hlm⟩ := P3.m
  obtain ⟨_, _, _, va, hba, hla⟩ := P3.a
  obtain ⟨D, cD, rfl, _⟩ := hlm.form
  have cY : ∀ d os i, (Go.Sort.grow (redrawn w3 d) os).cell? ⟨y, i, none⟩ = (#[.int .i64 s.ar, .int .i64 s.an] : Array Value)[i]? := fun d os => (hY3.below (below_regrown w3 d os) hY3.lt).cell
  have cM : ∀ d os i, (Go.Sort.grow (redrawn w3 d) os).cell? ⟨gm, i, none⟩ = (s.cells (.slice D s.led.length cD))[i]? := fun d os => (hbm.below (below_regrown w3 d os) hbm.lt).cell
  simp only [Acc.cells] at cM
  have ksame : ∀ d os, Calls Tryd.prog 59 #[.slice C k c, .slice D s.led.length cD] (Go.Sort.grow (redrawn w3 d) os) fun e w' => e = .returned (.bool true) ∧ Below (Go.Sort.grow (redrawn w3 d) os).heap.size (Go.Sort.grow (redrawn w3 d) os) w' := fun d os => by
    have hb := below_regrown w3 d os
    have := same_any (Go.Sort.grow (redrawn w3 d) os) _ _ _ _ _ _ _ _ (o3.fr (Fr.of_below hb (fun _ => False)) hh3 (fun _ _ _ h => h)).at_ (hlm.fr (Fr.of_below hb (fun _ => False)) hx3 (fun _ _ _ h => h)) (Nat.le_trans hh3 hb.size) (Nat.le_trans hx3 hb.size)
    rw [tf_iff.2 (rfl : s.led = s.led)] at this
    exact this
  have kprom : ∀ d os, Calls Tryd.prog 30 #[.pointer (some ⟨ga, 0, none⟩)] (Go.Sort.grow (redrawn w3 d) os) fun e w' => e = .returned (.agg #[.int .i64 s.pr, .int .i64 s.pn]) ∧ Below (Go.Sort.grow (redrawn w3 d) os).heap.size (Go.Sort.grow (redrawn w3 d) os) w' := fun d os =>
    promised_any ga s va _ (hba.below (below_regrown w3 d os) hba.lt)
  refine wp_region_quiet_below (by kernel_rfl) (by kernel_rfl) ?_
  repeat (go_big_quiet_step (first | exact Calls.regrown_of (ksame _ _) | exact Calls.regrown_of (kprom _ _)))
  refine wpQuiet_nil ?_
  intro _ hw'
  obtain ⟨⟨dq, osq⟩, hw''⟩ := hw'
  subst hw''
  have b4 := below_regrown w3 dq osq
  have P4 := P3.below b4 (Nat.le_refl _)
  have o4 := o3.fr (Fr.of_below b4 (fun _ => False)) hh3 (fun _ _ _ h => h)
  go_wp2_with (go_at_call 86; refine (spoil_any _ lo hi _ _ o4).mono ?_; rintro e w8 ⟨rfl, f8⟩)
  go_ret
  exact (P4.spoil f8 (by have := hxw.out; omega) (.inl (by omega)) (.inl (by omega))).done hgood rfl

end
end Go.Proofs.YtnlncfjibbdimaaDoor
