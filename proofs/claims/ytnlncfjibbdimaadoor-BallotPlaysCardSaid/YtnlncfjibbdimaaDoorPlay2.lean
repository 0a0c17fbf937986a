/-
  The walk of bollardlaw09.play: the arm that accepts; all arms in one.
-/
import Derived.Test.YtnlncfjibbdimaaDoorPlay
namespace Go.Proofs.YtnlncfjibbdimaaDoor
open Go.RowKit
set_option linter.unusedSimpArgs false
set_option linter.unusedVariables false

/-- What the arm that accepts carries from call to call. -/
structure TakeAt (w : World) (E B ga gm : Nat) (A : Nat → Addr) (x lo hi hl : Nat) (cells : Array Value) (own lv : Value) (l : List Cmd) (la ha lm hm : Nat) (sa sm : Acc) (wr : World) : Prop where
  p : PlayAt w E B ga gm A la ha lm hm sa sm wr
  box : Blk wr x 61 cells
  own : OwnLed wr lo hi own l
  led : LedAt wr 0 hl lv l
  hh : hi ≤ wr.heap.size
  ra : ha ≤ lo ∨ hi ≤ la
  rm : hm ≤ lo ∨ hi ≤ lm
  bx : B ≤ x
  blo : B ≤ lo
  ga : hl ≤ ga
  gm : hl ≤ gm

section
variable {w wr w' : World} {E B B' ga gm x lo hi hl la ha lm hm : Nat} {A : Nat → Addr} {cells : Array Value} {own lv : Value} {l : List Cmd} {sa sm s' : Acc}
theorem TakeAt.hl_le (h : TakeAt w E B ga gm A x lo hi hl cells own lv l la ha lm hm sa sm wr) : hl ≤ wr.heap.size := by
  have := h.ga; have := h.p.a.1; have := h.p.hB; have := h.p.fr.size; omega
theorem TakeAt.below (h : TakeAt w E B ga gm A x lo hi hl cells own lv l la ha lm hm sa sm wr) (f : Below B' wr w') (hB : wr.heap.size ≤ B') : TakeAt w E B ga gm A x lo hi hl cells own lv l la ha lm hm sa sm w' :=
  ⟨h.p.below f hB, h.box.below f (Nat.lt_of_lt_of_le h.box.lt hB), h.own.fr (Fr.of_below f (fun _ => False)) (Nat.le_trans h.hh hB) (fun _ _ _ h => h), h.led.fr (Fr.of_below f (fun _ => False)) (Nat.le_trans h.hl_le hB) (fun _ _ _ h => h),
    Nat.le_trans h.hh f.size, h.ra, h.rm, h.bx, h.blo, h.ga, h.gm⟩
theorem TakeAt.drew (h : TakeAt w E B ga gm A x lo hi hl cells own lv l la ha lm hm sa sm wr) : TakeAt w E B ga gm A x lo hi hl cells own lv l la ha lm hm sa sm wr.drew := h.below (Below.refl wr.heap.size wr).drew (Nat.le_refl _)
theorem TakeAt.actA_ (h : TakeAt w E B ga gm A x lo hi hl cells own lv l la ha lm hm sa sm wr) (f : Fr wr.heap.size (· = ga) wr w') {la' ha' : Nat} (hacc : AccL w' B la' ha' ga 156 s') (hmv : Moved wr la ha la' ha') :
    TakeAt w E B ga gm A x lo hi hl cells own lv l la' ha' lm hm s' sm w' :=
  ⟨h.p.actA f hacc, h.box.fr f h.box.lt (by have := h.bx; have := h.p.a.1; omega), h.own.fr f h.hh (fun k h1 h2 h3 => by have := h.blo; have := h.p.a.1; omega), h.led.fr f h.hl_le (fun k h1 h2 h3 => by have := h.ga; omega),
    Nat.le_trans h.hh f.size, (by rcases hmv with ⟨h1, h2⟩ | h1
                                  · rw [h1, h2]; exact h.ra
                                  · exact .inr (Nat.le_trans h.hh h1)), h.rm, h.bx, h.blo, h.ga, h.gm⟩
theorem TakeAt.actM_ (h : TakeAt w E B ga gm A x lo hi hl cells own lv l la ha lm hm sa sm wr) (f : Fr wr.heap.size (· = gm) wr w') {lm' hm' : Nat} (hacc : AccL w' B lm' hm' gm 59 s') (hmv : Moved wr lm hm lm' hm') :
    TakeAt w E B ga gm A x lo hi hl cells own lv l la ha lm' hm' sa s' w' :=
  ⟨h.p.actM f hacc, h.box.fr f h.box.lt (by have := h.bx; have := h.p.m.1; omega), h.own.fr f h.hh (fun k h1 h2 h3 => by have := h.blo; have := h.p.m.1; omega), h.led.fr f h.hl_le (fun k h1 h2 h3 => by have := h.gm; omega),
    Nat.le_trans h.hh f.size, h.ra, (by rcases hmv with ⟨h1, h2⟩ | h1
                                        · rw [h1, h2]; exact h.rm
                                        · exact .inr (Nat.le_trans h.hh h1)), h.bx, h.blo, h.ga, h.gm⟩
end

section
variable {w : World} {E B ga gm hl : Nat} {A : Nat → Addr} {s : Acc} (kind which r n : Int) (lv : Value) (l : List Cmd)

set_option maxHeartbeats 1600000 in
theorem play_accept (h : Both w B ga gm s) (hs : Sure w E A ga gm) (hL : LedAt w 0 hl lv l) (hla : hl ≤ ga) (hlm : hl ≤ gm) :
    Calls Tryd.prog 29 #[.pointer (some ⟨ga, 0, none⟩), .pointer (some ⟨gm, 0, none⟩), .agg #[.int .i64 2, .int .i64 which, .int .i64 r, .int .i64 n, lv]] w (PlayPost w B ga gm) := by
  have P0 := PlayAt.start h hs
  have hgood := h.good
  have hBw := h.a.2.1
  have hga := h.a.1
  have hgm := h.m.1
  clear h hs
  obtain ⟨D, d, rfl, _⟩ := hL.form
  go_enter Tryd.func29, Tryd.ntmps29
  go_upto_region 1 with (fail)
  refine wp_letter (fun W => PlayAt w E B ga gm A B w.heap.size B w.heap.size s s W ∧ Blk W w.heap.size 61 #[.int .i64 2, .int .i64 which, .int .i64 r, .int .i64 n, .slice D l.length d] ∧ LedAt W 0 hl (.slice D l.length d) l)
    ⟨P0.alloc _, Blk.new _ _ _, hL.fr (Fr.of_below ((Below.refl w.heap.size w).alloc (Nat.le_refl _) _) (fun _ => False)) (by omega) (fun _ _ _ h => h)⟩ ?_
  rintro w1 ⟨P1, hX1, hL1⟩
  obtain ⟨x, hx⟩ : ∃ x, x = w.heap.size := ⟨_, rfl⟩
  have hxB : B ≤ x := by omega
  rw [← hx] at hX1 P1 P0 ⊢
  have hxw := Lib.hid hx
  clear P0 hx hL
  have cX := hX1.cell
  go_wp2_with (fail)
  have hlw : hl ≤ w1.heap.size := by have := hX1.lt; omega
  refine (rcopy_any _ 0 hl _ l hL1 hlw).mono ?_
  rintro e w2 ⟨v2, rfl, o2, b2⟩
  have hw1 : x ≤ w1.heap.size := Nat.le_of_lt hX1.lt
  have T2 : TakeAt w E B ga gm A x w1.heap.size w2.heap.size hl #[.int .i64 2, .int .i64 which, .int .i64 r, .int .i64 n, .slice D l.length d] v2 (.slice D l.length d) l B x B x s s w2 :=
    ⟨P1.below b2 (Nat.le_refl _), hX1.below b2 hX1.lt, o2, hL1.fr (Fr.of_below b2 (fun _ => False)) hlw (fun _ _ _ h => h), Nat.le_refl _, .inl hw1, .inl hw1, hxB, by omega, hla, hlm⟩
  obtain ⟨C, c, rfl, _⟩ := o2.at_.form
  obtain ⟨lo, hlo⟩ : ∃ lo, lo = w1.heap.size := ⟨_, rfl⟩
  obtain ⟨hi, hhi⟩ : ∃ hi, hi = w2.heap.size := ⟨_, rfl⟩
  rw [← hlo] at hw1
  rw [← hlo, ← hhi] at T2
  clear P1 hX1 hL1 cX b2 o2 hlo hhi
  obtain ⟨q, hq⟩ : ∃ q, q = s.refuse r n := ⟨_, rfl⟩
  have hqq := refuse_q s r n
  rw [← hq] at hqq
  obtain ⟨ev, hev⟩ : ∃ ev, ev = errq A q := ⟨_, rfl⟩
  have HEV := Lib.hid hev
  have HQ := Lib.hid hq
  clear hev hq
  have T := T2.drew
  have qX := T2.box.cell
  go_upto_region 10 with (fail)
  go_region_held3 (fun w' => w'.cell? ⟨x, 2, none⟩ = some (.int .i64 r) ∧ w'.cell? ⟨x, 3, none⟩ = some (.int .i64 n) ∧ w'.cell? ⟨x, 4, none⟩ = some (.slice D l.length d)) (go_keep)
    (first
      | (go_at_call 32
         refine (accept_l (A := A) T.p.a (Nat.le_trans T.p.hB T.p.fr.size) (T.p.cell 0 (by decide)) (T.p.cell 3 (by decide)) T.own.at_ T.hh (.inl (by have := T.blo; have := T.p.a.1; omega))).mono ?_
         rintro e wA ⟨he, fA, la', ha', aA, mA⟩
         rw [← HQ.out, ← HEV.out] at he
         subst he
         have T := T.actA_ fA aA mA
         have qX := T.box.cell)
      | (go_at_call 64
         have knum := num_errq T.p.sure.errs (Nat.le_trans T.p.E_le T.p.fr.size) hqq
         rw [← HEV.out] at knum
         refine knum.mono ?_
         rintro e wN ⟨rfl, bN⟩
         have T := T.below bN (Nat.le_refl _)
         have qX := T.box.cell)
      | (go_at_call 87
         refine (raccept_l T.p.m (Nat.le_trans T.p.hB T.p.fr.size) T.led T.hl_le (.inr T.gm)).mono ?_
         rintro e wM ⟨he, fM, lm', hm', aM, mM⟩
         rw [← HQ.out] at he
         subst he
         have T := T.actM_ fM aM mM
         have qX := T.box.cell)
      | (go_at_call 59
         have ks := same_any _ _ _ _ _ _ _ l l T.own.at_ T.led T.hh T.hl_le
         rw [tf_iff.2 (rfl : l = l)] at ks
         refine ks.mono ?_
         rintro e wS ⟨rfl, bS⟩
         have T := T.below bS (Nat.le_refl _)
         have qX := T.box.cell))
  go_wp2_with (go_at_call 86; refine (spoil_any _ lo hi _ _ T.own).mono ?_; rintro e w8 ⟨rfl, f8⟩)
  go_ret
  exact (T.p.spoil f8 (by have := hxw.out; omega) T.ra T.rm).done (hgood.take r n l) rfl

/-- Any call, by both: the answers are alike, and both come to one state. -/
theorem play_any (h : Both w B ga gm s) (hs : Sure w E A ga gm) (hL : LedAt w 0 hl lv l) (hla : hl ≤ ga) (hlm : hl ≤ gm) :
    Calls Tryd.prog 29 #[.pointer (some ⟨ga, 0, none⟩), .pointer (some ⟨gm, 0, none⟩), .agg #[.int .i64 kind, .int .i64 which, .int .i64 r, .int .i64 n, lv]] w (PlayPost w B ga gm) := by
  by_cases k1 : kind = 1
  · subst k1; exact play_prepare which r n lv h hs
  · by_cases k2 : kind = 2
    · subst k2; exact play_accept which r n lv l h hs hL hla hlm
    · by_cases k3 : kind = 3
      · subst k3; exact play_claim which r n lv h hs
      · exact play_ask kind which r n lv k1 k2 k3 h hs
end
end Go.Proofs.YtnlncfjibbdimaaDoor
