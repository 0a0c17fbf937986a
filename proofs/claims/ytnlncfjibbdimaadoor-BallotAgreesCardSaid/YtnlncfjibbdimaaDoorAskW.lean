/-
  BallotAgrees: ask: a round's preparing.
-/
import Derived.Test.YtnlncfjibbdimaaDoorAskM
import Derived.Test.YtnlncfjibbdimaaDoorBools
import Derived.Test.YtnlncfjibbdimaaDoorBal1
import Derived.Deep.DeepCutAuto
namespace Go.Proofs.YtnlncfjibbdimaaDoor
open Go.RowKit
set_option linter.unusedSimpArgs false
set_option linter.unusedVariables false

theorem LedAt.empty (w : World) (lo hi c : Nat) (A : Option Addr) (hc : c ≤ maxLen) : LedAt w lo hi (.slice A 0 c) [] :=
  ⟨A, c, [], rfl, Nat.zero_le _, hc, by simp, ⟨by simp, fun h => absurd h (by simp)⟩, rfl, fun i r c h => by simp at h⟩
theorem Lf.empty (M : Nat → Prop) (w : World) (c : Nat) (A : Option Addr) (hc : c ≤ maxLen) : Lf M w (.slice A 0 c) [] := ⟨0, 0, LedAt.empty w 0 0 c A hc, Nat.zero_le _, fun m _ => .inr (Nat.zero_le _)⟩

/-- The command that a round puts behind. -/
def tagged (r nn tag : Int) : Cmd := ⟨10, nn, 0, r, ⟨#[]⟩, ⟨#[]⟩, 0, 0, 0, 0, 0, 0, 0, ⟨#[]⟩, 0, [], tag, 0⟩

def BAskPost (M : Nat → Prop) (w : World) (B n half K : Nat) (g : Nat → Nat) (v : Vt) (r nn tag : Int) (tv : Value) (e : Ending) (w' : World) : Prop :=
  ∃ b lv' s' L', e = .returned (.tuple #[.agg #[.int .i64 r, .int .i64 nn, lv', tv], .bool b]) ∧ AccsF M w' B n g s' ∧ Lf M w' lv' L' ∧ (b = true → Ballots n half (fun i => aof (s' i)) ⟨fun c => if c = (r, nn) then some L' else v.prop c, v.voted⟩) ∧ (b = false → Ballots n half (fun i => aof (s' i)) v) ∧
    (∀ i, i < n → (s' i).led.length ≤ K) ∧ L'.length ≤ K + 1 ∧ Fr w.heap.size (fun k => ∃ i, i < n ∧ k = g i) w w'

structure AskInv (M : Nat → Prop) (w : World) (B n half K : Nat) (g : Nat → Nat) (A : Option Addr) (v : Vt) (r nn tag : Int) (av tv : Value) (late : Bool) (x y sb nb : Nat) (M' : Nat → Prop) (s' : Nat → Acc) (seen : Nat → Bool) (m : Bl) (L : List Cmd) (lv : Value) (wr : World) : Prop where
  ask : Askd M w B n half K g A v r nn M' s' seen m L lv wr
  sM : M' sb
  nM : M' nb
  yM : M' y
  xM : ¬ M' x
  hs : Blk wr sb 4 (bls seen n)
  hn : Blk wr nb 23 #[.int .i64 m.1, .int .i64 m.2]
  hx : Blk wr x 45 #[.int .i64 r, .int .i64 nn, av, tv, .int .i64 tag, .bool late]
  hy : Blk wr y 48 #[.int .i64 0, .int .i64 0, .slice none 0 0, .slice none 0 0]
  lo : w.heap.size ≤ x ∧ w.heap.size ≤ y ∧ w.heap.size ≤ sb ∧ w.heap.size ≤ nb

section
variable {M M' : Nat → Prop} {w w1 w2 : World} {B n half K : Nat} {g : Nat → Nat} {A : Option Addr} {v : Vt} {r nn tag : Int} {av tv : Value} {late : Bool} {x y sb nb : Nat} {s s' : Nat → Acc} {seen : Nat → Bool} {m : Bl} {L : List Cmd} {lv : Value} {j : Nat}
theorem AskInv.below (h : AskInv M w B n half K g A v r nn tag av tv late x y sb nb M' s' seen m L lv w1) (f : Below w1.heap.size w1 w2) : AskInv M w B n half K g A v r nn tag av tv late x y sb nb M' s' seen m L lv w2 :=
  ⟨h.ask.below f, h.sM, h.nM, h.yM, h.xM, h.hs.below f h.hs.lt, h.hn.below f h.hn.lt, h.hx.below f h.hx.lt, h.hy.below f h.hy.lt, h.lo⟩
end
/-- Behind a round's Prepare: block q holds the ballot that was told, uv the ledger. -/
structure AskMid (M : Nat → Prop) (w : World) (B n half K : Nat) (g : Nat → Nat) (A : Option Addr) (v : Vt) (r nn tag : Int) (av tv : Value) (late : Bool) (x y sb nb : Nat) (M' : Nat → Prop) (s' : Nat → Acc) (seen : Nat → Bool) (m : Bl) (L : List Cmd) (lv : Value) (j q : Nat) (R N : Int) (uv : Value) (wx : World) : Prop where
  inv : AskInv M w B n half K g A v r nn tag av tv late x y sb nb (fun k => M' k ∨ k = q) (upd s' j ((s' j).prep r nn)) seen m L lv wx
  told : Told n r nn s' seen m L
  blk : Blk wx q 23 #[.int .i64 R, .int .i64 N]
  led : Lf (fun k => M' k ∨ k = q) wx uv ((s' j).toldL r nn)
  ne : q ≠ x ∧ q ≠ y ∧ q ≠ sb ∧ q ≠ nb
section
variable {M M' : Nat → Prop} {w wr : World} {B n half K : Nat} {g : Nat → Nat} {A : Option Addr} {v : Vt} {r nn tag : Int} {av tv : Value} {late : Bool} {x y sb nb : Nat} {s s' : Nat → Acc} {seen : Nat → Bool} {m : Bl} {L : List Cmd} {lv : Value} {j : Nat}
theorem AskInv.mid (h : AskInv M w B n half K g A v r nn tag av tv late x y sb nb M' s' seen m L lv wr) (hj : j < n) {lo1 hi1 q : Nat} (hlo1 : ∀ k, M' k → k < lo1 ∨ hi1 ≤ k) (hhi1 : hi1 ≤ wr.heap.size) {W wA wx : World} {uv : Value} {R N : Int}
    (b1 : Below wr.heap.size wr W) (fA : Fr W.heap.size (· = g j) W wA) (aA : AccL wA B lo1 hi1 (g j) 156 ((s' j).prep r nn)) (oA : OwnLed wA W.heap.size wA.heap.size uv ((s' j).toldL r nn)) (hq : (wr.heap.size ≤ q ∧ q < W.heap.size) ∨ q = wA.heap.size)
    (f2 : Fr wA.heap.size (· = q) wA wx) (hB : Blk wx q 23 #[.int .i64 R, .int .i64 N]) : AskMid M w B n half K g A v r nn tag av tv late x y sb nb M' s' seen m L lv j q R N uv wx := by
  have hs0 := h.ask.size
  have hs1 := b1.size
  have hs2 := fA.size
  have hs3 := f2.size
  have hgW := h.ask.gN j hj
  obtain ⟨lx, ly, ls, ln⟩ := h.lo
  have hq0 : wr.heap.size ≤ q := by rcases hq with ⟨h, _⟩ | h <;> omega
  have hsl := h.hs.lt
  have hnl := h.hn.lt
  have hxl := h.hx.lt
  have hyl := h.hy.lt
  have fr : ∀ {p : Nat} {t : TypeId} {cs : Array Value}, Blk wr p t cs → w.heap.size ≤ p → Blk wx p t cs := fun {p t cs} hb hp => by
    have hl := hb.lt
    exact ((hb.below b1 hl).fr fA (by omega) (by omega)).fr f2 (by omega) (by omega)
  have ask : Askd M w B n half K g A v r nn (fun k => M' k ∨ k = q) (upd s' j ((s' j).prep r nn)) seen m L lv wx := by
    rcases hq with ⟨q1, q2⟩ | q1
    · have h1 := h.ask.more (q := q) b1 q1 q2
      have h2 := h1.call hj fA (lo := lo1) (hi := hi1) (fun k hk => by
        rcases hk with hk | hk
        · exact hlo1 k hk
        · right; omega) aA
      exact h2.keep f2 (fun k hk => ⟨.inr hk, by omega⟩)
    · have h1 := h.ask.below b1
      have h2 := h1.call hj fA hlo1 aA
      have b2 : Below wA.heap.size wA wx := f2.below (fun k hk e => by omega)
      exact h2.more b2 (by omega) (by have := hB.lt; omega)
  refine ⟨⟨ask, .inl h.sM, .inl h.nM, .inl h.yM, fun hx => ?_, fr h.hs ls, fr h.hn ln, fr h.hx lx, fr h.hy ly, h.lo⟩, h.ask.told, hB, ?_, by omega, by omega, by omega, by omega⟩
  · rcases hx with hx | hx
    · exact h.xM hx
    · omega
  · refine ⟨W.heap.size, wA.heap.size, (oA.fr f2 (Nat.le_refl _) (fun k h1 h2 hk => by omega)).at_, f2.size, fun k hk => ?_⟩
    rcases hk with hk | hk
    · have := h.ask.lt k hk
      left; omega
    · omega
end
theorem blk_ne {w : World} {g h : Nat} {t u : TypeId} {a b : Array Value} (h1 : Blk w g t a) (h2 : Blk w h u b) (hne : t ≠ u) : g ≠ h := fun e => by
  subst e
  unfold Blk at h1 h2
  rw [h1] at h2
  injection h2 with h2
  injection h2 with _ h2
  exact hne h2
theorem bal_inf2 : (Tryd.prog.info? 23).map (·.size) = some 2 := by kernel_rfl
theorem Fr.two (w : World) (q : Nat) (u u' : Value) : Fr w.heap.size (· = q) w ((w.setCell ⟨q, 0, none⟩ u).setCell ⟨q, 1, none⟩ u') :=
  ((Fr.refl w.heap.size (· = q) w).setCell (p := ⟨q, 0, none⟩) (.inl rfl) u).setCell (p := ⟨q, 1, none⟩) (.inl rfl) u'
section
variable {M M' : Nat → Prop} {w wc w2 : World} {B n half K : Nat} {g : Nat → Nat} {A : Option Addr} {v : Vt} {r nn tag : Int} {av tv : Value} {late : Bool} {x y sb nb : Nat} {s s' : Nat → Acc} {seen : Nat → Bool} {m : Bl} {L : List Cmd} {lv lv' : Value} {P : Int}
theorem AskInv.post (h : AskInv M w B n half K g A v r nn tag av tv late x y sb nb M' s' seen m L lv wc) {lo : Nat} (hO : OwnLed wc lo wc.heap.size lv' (L ++ [tagged r nn tag])) (hlt : ∀ k, M' k → k < lo) (hin : ∀ i, i < n → M (g i)) (hP : P = (cnt n seen : Nat)) (hnew : v.prop (r, nn) = none)
    (f : Fr wc.heap.size (· = y) wc w2) {b : Bool} (hb : b = true → (half : Int) ≤ P) : BAskPost M w B n half K g v r nn tag tv (.returned (.tuple #[.agg #[.int .i64 r, .int .i64 nn, lv', tv], .bool b])) w2 := by
  have hyl := hlt y h.yM
  have hs := h.ask.size
  refine ⟨b, lv', s', L ++ [tagged r nn tag], rfl, ?_, ⟨lo, wc.heap.size, hO.at_.fr f (Nat.le_refl _) (fun k h1 h2 h3 => by omega), f.size, fun k hk => .inl (hlt k (h.ask.up k hk))⟩, fun e => ?_, fun _ => h.ask.bal, h.ask.short, ?_, ?_⟩
  · exact (h.ask.accs.fr f (Nat.le_refl _) (fun k hk => by subst hk; exact h.yM) (fun i hi e => by have := h.ask.gN i hi; have := h.lo.2.1; omega)).grow (fun k hk => .inl (h.ask.up k hk)) hin
  · exact h.ask.told.propose h.ask.bal hnew (by have := hb e; omega) [tagged r nn tag]
  · rw [List.length_append]
    have := h.ask.hL
    simp only [List.length_singleton]
    omega
  · exact h.ask.fr.step f hs (fun k hk hk' => by have := h.lo.2.1; omega)
end
theorem Blk.newAt {w : World} {q : Nat} {t : TypeId} {cs : Array Value} (h : q = w.heap.size) : Blk (w.alloc (.cells cs t)) q t cs := by subst h; exact Blk.new w t cs

set_option maxRecDepth 100000 in
set_option maxHeartbeats 1600000 in
theorem ask_any (w : World) (M : Nat → Prop) (B n half K cA lo hi : Nat) (g : Nat → Nat) (A : Option Addr) (v : Vt) (r nn tag : Int) (av tv : Value) (late : Bool) (asks : List Int) (s : Nat → Acc) (Ad : Nat → Addr)
    (h0 : w.cell? ⟨0, 0, none⟩ = some (errv (Ad 0))) (h3 : w.cell? ⟨3, 0, none⟩ = some (errv (Ad 3))) (hlow : ∀ k, M k → 4 ≤ k)
    (hacc : AccsF M w B n g s) (hptr : PtrsF M w A n g) (hbal : Ballots n half (fun i => aof (s i)) v) (hnew : v.prop (r, nn) = none)
    (hshort : ∀ i, i < n → (s i).led.length ≤ K) (hlt : ∀ m, M m → m < w.heap.size) (hn0 : 0 < n) (hn7 : n ≤ 7) (hhalf : half ≤ 1000) (hK : K ≤ 1000)
    (has : IntsAt w lo hi av asks) (hhi : hi ≤ w.heap.size) (hasM : ∀ m, M m → m < lo ∨ hi ≤ m) (htv : ∃ At kt ct, tv = .slice At kt ct) :
    Calls Tryd.prog 27 #[.slice A n cA, .agg #[.int .i64 r, .int .i64 nn, av, tv, .int .i64 tag, .bool late], .int .i64 (half : Nat)] w (BAskPost M w B n half K g v r nn tag tv) := by
  have hT0 := Askd.start (r := r) (nn := nn) (K := K) (A := A) (lv := .slice (some ⟨w.heap.size + 1 + 1 + 1 + 1, 0, none⟩) 0 0) hacc hptr hbal hshort hlt (Lf.empty _ _ _ _ (Nat.zero_le _))
  obtain ⟨At, kt, ct, rfl⟩ := htv
  obtain ⟨Aa, ca, rfl, hl1, hm1, _, hrd⟩ := has
  obtain ⟨na, hna⟩ : ∃ na, na = asks.length := ⟨_, rfl⟩
  rw [← hna] at hl1 hrd ⊢
  have HNA := Lib.hid hna
  clear hna
  have hm1' : ca ≤ 9223372036854775807 := by simp only [maxLen] at hm1; omega
  have hx1 : ¬ M w.heap.size := fun h => by have := hlt _ h; omega
  have hmk := make_bools n (by omega)
  go_enter Tryd.func27, Tryd.ntmps27
  go_upto_region 6 with (fail)
  have hT1 := ((((hT0.below (w2 := w.alloc (.cells #[.int .i64 r, .int .i64 nn, .slice Aa na ca, .slice At kt ct, .int .i64 tag, .bool late] 45)) ((Below.refl _ _).alloc (Nat.le_refl _) _)).more (q := w.heap.size + 1) ((Below.refl _ _).alloc (Nat.le_refl _) (.cells #[.int .i64 0, .int .i64 0, .slice none 0 0, .slice none 0 0] 48)) (by simp) (by simp)).more (q := w.heap.size + 1 + 1) ((Below.refl _ _).alloc (Nat.le_refl _) (.cells (bls (fun _ => false) n) 4)) (by simp) (by simp)).more (q := w.heap.size + 1 + 1 + 1) ((Below.refl _ _).alloc (Nat.le_refl _) (.cells #[.int .i64 0, .int .i64 0] 23)) (by simp) (by simp)).below ((Below.refl _ _).alloc (Nat.le_refl _) (.cells #[] 81))
  refine wp_letter (fun W1 => ∃ M', AskInv M w B n half K g A v r nn tag (.slice Aa na ca) (.slice At kt ct) late w.heap.size (w.heap.size + 1) (w.heap.size + 1 + 1) (w.heap.size + 1 + 1 + 1) M' s (fun _ => false) (0, 0) [] (.slice (some ⟨w.heap.size + 1 + 1 + 1 + 1, 0, none⟩) 0 0) W1)
    ⟨_, hT1, .inl (.inr rfl), .inr rfl, .inl (.inl (.inr rfl)), fun h => by rcases h with ((h | h) | h) | h <;> first | exact hx1 h | omega, ((Blk.newAt (by simp)).alloc _).alloc _, (Blk.newAt (by simp)).alloc _, ((((Blk.new w 45 _).alloc _).alloc _).alloc _).alloc _, (((Blk.newAt (by simp)).alloc _).alloc _).alloc _, by omega⟩ ?_
  rintro W1 ⟨M1, hI1⟩
  obtain ⟨x, hx⟩ : ∃ x, x = w.heap.size := ⟨_, rfl⟩
  obtain ⟨y, hy⟩ : ∃ y, y = w.heap.size + 1 := ⟨_, rfl⟩
  obtain ⟨sb, hsb⟩ : ∃ sb, sb = w.heap.size + 1 + 1 := ⟨_, rfl⟩
  obtain ⟨nb, hnb⟩ : ∃ nb, nb = w.heap.size + 1 + 1 + 1 := ⟨_, rfl⟩
  obtain ⟨lb, hlb⟩ : ∃ lb, lb = w.heap.size + 1 + 1 + 1 + 1 := ⟨_, rfl⟩
  rw [← hlb, ← hnb, ← hsb, ← hy, ← hx] at hI1
  rw [← hlb, ← hnb, ← hsb, ← hy, ← hx]
  have HX := Lib.hid (show x = w.heap.size ∧ y = w.heap.size + 1 ∧ sb = w.heap.size + 2 ∧ nb = w.heap.size + 3 from ⟨hx, hy, by omega, by omega⟩)
  clear hx hy hsb hnb hlb hx1 hT1 hT0
  have cX := hI1.hx.cell
  have hI1' := Lib.hid (show ∃ M' s' seen m L, Hid ((0 : Int) = (cnt n seen : Nat)) ∧ AskInv M w B n half K g A v r nn tag (.slice Aa na ca) (.slice At kt ct) late x y sb nb M' s' seen m L (.slice (some ⟨lb, 0, none⟩) 0 0) W1 from ⟨_, _, _, _, _, Lib.hid (by rw [cnt_zero]; rfl), hI1⟩)
  clear hI1
  go_wp2_with (fail)
  go_loopw [10, 12, 28] (fun pv lv i wr => ∃ (k : Nat) (P : Int), k ≤ na ∧ i = .int .i64 k ∧ pv = .int .i64 P ∧ ∃ M' s' seen m L, Hid (P = (cnt n seen : Nat)) ∧ AskInv M w B n half K g A v r nn tag (.slice Aa na ca) (.slice At kt ct) late x y sb nb M' s' seen m L lv wr) (fun _ _ i _ => na - (intOf i).toNat)
  case atStart => exact ⟨0, 0, Nat.zero_le _, rfl, rfl, hI1'.out⟩
  case round =>
    obtain ⟨k, P, hk, rfl, rfl, M', s', seen, m, L, hP, hI⟩ := hrel
    by_cases hlt : k < na
    · have hk' : k < asks.length := by rw [← HNA.out]; exact hlt
      obtain ⟨z, hz⟩ : ∃ z, asks[k]? = some z := ⟨_, List.getElem?_eq_getElem hk'⟩
      obtain ⟨tb, tq, rfl, ht1, ht2, ht3⟩ := ints_cell hrd hz
      have htc : wr.cell? ⟨tb, tq + k, none⟩ = some (.int .i64 z) := (hI.ask.fr.cell (p := ⟨tb, tq + k, none⟩) (by simp only; omega) (fun h => by
        obtain ⟨i, hi, h⟩ := h
        have hm : M tb := by simp only at h; rw [h]; exact hacc.in_ i hi
        have := hasM tb hm
        omega)).trans ht3
      obtain ⟨j, hj, hwj⟩ := whichN z hn0 (by omega)
      have hj1 : (j : Int) < n := by omega
      have hnn : ¬ (n : Int) = 0 := by omega
      obtain ⟨bA, oA, hA, hbA, hMA, hcA⟩ := hI.ask.ptr.at_ hj
      have hPj := hcA j hj
      have HTK := Lib.hid (And.intro hz (And.intro ht3 HNA))
      clear hz ht3 hcA
      subst hA
      go_upto_region 10 with (fail)
      obtain ⟨lo1, hi1, hA1, hlo1⟩ := hI.ask.accs.acc j hj
      have hgM := hI.ask.accs.in_ j hj
      have hgW := hI.ask.gN j hj
      have hsz := hI.ask.size
      have hlow2 : ∀ q, q < 4 → wr.cell? ⟨q, 0, none⟩ = w.cell? ⟨q, 0, none⟩ := fun q hq => hI.ask.fr.cell (p := ⟨q, 0, none⟩) (by have := hlow _ (hacc.in_ j hj); simp only; omega) (fun h => by
        obtain ⟨i, hi, h⟩ := h
        have := hlow _ (hacc.in_ i hi); simp only at h; omega)
      have h0r := (hlow2 0 (by omega)).trans h0
      have h3r := (hlow2 3 (by omega)).trans h3
      have kc : ∀ W, Below wr.heap.size wr W → Calls Tryd.prog 31 #[.pointer (some ⟨g j, 0, none⟩), .agg #[.int .i64 r, .int .i64 nn]] W (PrepL Ad B lo1 hi1 (g j) (s' j) r nn W) := fun W b =>
        prepare_l (hA1.below b (Nat.le_refl _)) ((b.cell (p := ⟨0, 0, none⟩) (World.block_lt_of_cell? wr _ h0r)).trans h0r) ((b.cell (p := ⟨3, 0, none⟩) (World.block_lt_of_cell? wr _ h3r)).trans h3r)
      have HC := Lib.hid kc
      have cX := hI.hx.cell
      clear kc hlow2 h0r h3r
      obtain ⟨⟨R, hR⟩, ⟨N, hN⟩, ⟨er, her⟩⟩ : (∃ R, R = (s' j).toldR r nn) ∧ (∃ N, N = (s' j).toldN r nn) ∧ (∃ er, er = errq Ad ((s' j).refuse r nn)) := ⟨⟨_, rfl⟩, ⟨_, rfl⟩, ⟨_, rfl⟩⟩
      go_cut [16, 17, 18] (fun v16 v17 v18 wx => ∃ q C kk cc, v16 = .pointer (some ⟨q, 0, none⟩) ∧ v17 = .slice C kk cc ∧ v18 = er ∧ AskMid M w B n half K g (some ⟨bA, oA, none⟩) v r nn tag (.slice (some ⟨tb, tq, none⟩) na ca) (.slice At kt ct) late x y sb nb M' s' seen m L u12 j q R N (.slice C kk cc) wx)
      case first =>
        have HI := Lib.hid (And.intro hI hlo1)
        have hgx : g j ≠ x := fun e => hI.xM (e ▸ hgM)
        have hxl := hI.hx.lt
        have hhi1 := hA1.2.2.1
        have HK := Lib.hid (show ∀ W wA, Below wr.heap.size wr W → Fr W.heap.size (· = g j) W wA → wA.cell? ⟨bA, oA + j, none⟩ = some (.pointer (some ⟨g j, 0, none⟩)) ∧ wA.cell? ⟨x, 0, none⟩ = some (.int .i64 r) ∧ wA.cell? ⟨x, 1, none⟩ = some (.int .i64 nn) from
          fun W wA b f => ⟨(f.cell (p := ⟨bA, oA + j, none⟩) (by have := b.size; simp only; omega) (fun e => hMA (by simp only at e; rw [e]; exact hgM))).trans ((b.cell (p := ⟨bA, oA + j, none⟩) hbA).trans hPj), (f.cell (p := ⟨x, 0, none⟩) (by have := b.size; simp only; omega) (Ne.symm hgx)).trans ((b.cell (p := ⟨x, 0, none⟩) hxl).trans (cX 0)), (f.cell (p := ⟨x, 1, none⟩) (by have := b.size; simp only; omega) (Ne.symm hgx)).trans ((b.cell (p := ⟨x, 1, none⟩) hxl).trans (cX 1))⟩)
        have kc2 : ∀ W, Below wr.heap.size wr W → Calls Tryd.prog 31 #[.pointer (some ⟨g j, 0, none⟩), .agg #[.int .i64 r, .int .i64 nn]] W (fun e w' => ∃ C k c, e = .returned (.tuple #[.agg #[.int .i64 R, .int .i64 N], .slice C k c, er]) ∧ Fr W.heap.size (· = g j) W w' ∧ AccL w' B lo1 hi1 (g j) 156 ((s' j).prep r nn) ∧ OwnLed w' W.heap.size w'.heap.size (.slice C k c) ((s' j).toldL r nn)) := fun W b => by
          rw [hR, hN, her]; exact HC.out W b
        have HC2 := Lib.hid kc2
        have hd : Below wr.heap.size wr wr.drew := (Below.refl _ _).drew
        have ha : Below wr.heap.size wr ((wr.alloc (.cells #[.int .i64 0, .int .i64 0] 23)).drew) := ((Below.refl _ _).alloc (Nat.le_refl _) _).drew
        have HB := Lib.hid (And.intro hd ha)
        have hn1 : ¬ bA = wr.heap.size := by omega
        have hn2 : ¬ x = wr.heap.size := by omega
        have hgq : ¬ wr.heap.size = g j := by omega
        clear hI hA1 hlo1 kc2 HC hd ha hR hN her
        go_region_held3 (fun w' => w'.cell? ⟨bA, oA + j, none⟩ = some (.pointer (some ⟨g j, 0, none⟩)) ∧ w'.cell? ⟨x, 0, none⟩ = some (.int .i64 r) ∧ w'.cell? ⟨x, 1, none⟩ = some (.int .i64 nn)) (go_keep)
          (first
            | (go_at_call 31
               (with_reducible refine (HC2.out wr.drew HB.out.1).mono ?_)
               rintro e wA ⟨C, kk, cc, rfl, fA, aA, oA'⟩
               obtain ⟨k1, k2, k3⟩ := HK.out _ wA HB.out.1 fA
               have nz1 : ¬ bA = wA.heap.size := by have := fA.size; have := hbA; simp only [World.size_drew] at *; omega
               have nz2 : ¬ x = wA.heap.size := by have := fA.size; have := hxl; simp only [World.size_drew] at *; omega)
            | (go_at_call 31
               (with_reducible refine (HC2.out ((wr.alloc (.cells #[.int .i64 0, .int .i64 0] 23)).drew) HB.out.2).mono ?_)
               rintro e wA ⟨C, kk, cc, rfl, fA, aA, oA'⟩
               obtain ⟨k1, k2, k3⟩ := HK.out _ wA HB.out.2 fA
               have bq := ((Blk.new wr 23 #[.int .i64 0, .int .i64 0]).drew).fr fA (by simp) hgq
               have f2 : ∀ u u', Fr wA.heap.size (· = wr.heap.size) wA ((wA.setCell ⟨wr.heap.size, 0, none⟩ u).setCell ⟨wr.heap.size, 1, none⟩ u') := fun u u' => Fr.two wA wr.heap.size u u'
               have hwl := bq.lt
               have e1 := fun u u' => ((f2 u u').cell (p := ⟨bA, oA + j, none⟩) (Nat.lt_trans hbA hwl) hn1).trans k1
               have e2 := fun u u' => ((f2 u u').cell (p := ⟨x, 0, none⟩) (Nat.lt_trans hxl hwl) hn2).trans k2
               have e3 := fun u u' => ((f2 u u').cell (p := ⟨x, 1, none⟩) (Nat.lt_trans hxl hwl) hn2).trans k3
               have F2 := Lib.hid (f2 (.int .i64 R) (.int .i64 N))
               clear f2
               have z0 := bq.cell 0
               have z1 := bq.cell 1
               have y0 := bq.frozen 0
               have y1 := bq.frozen 1))
        all_goals (go_wp2_with (fail))
        all_goals go_meet
        all_goals first
          | exact ⟨_, _, _, _, rfl, rfl, rfl, HI.out.1.mid hj HI.out.2 hhi1 HB.out.2 fA aA oA' (.inl ⟨Nat.le_refl _, by simp⟩) F2.out ((bq.set_ 0 (.int .i64 R)).set_ 1 (.int .i64 N))⟩
          | exact ⟨_, _, _, _, rfl, rfl, rfl, HI.out.1.mid hj HI.out.2 hhi1 HB.out.1 fA aA oA' (.inr rfl) ((Fr.refl _ _ _).alloc (Nat.le_refl _) _) (Blk.new _ _ _)⟩
          | skip
      case rest =>
        obtain ⟨q, C, kk, cc, rfl, rfl, hev, hM⟩ := hcut
        obtain ⟨hI', hTold, hBq, hLq, hqx, hqy, hqs, hqn⟩ := hM
        have hshj := hI.ask.short j hj
        have hgN := hI.ask.told
        clear hI hA1 hlo1 HC cX hPj htc
        have hs2 := hI'.hs
        have hn2 := hI'.hn
        by_cases hr : (s' j).refuse r nn = 0
        · have hv : er = .nilIface := by rw [her, hr]; rfl
          rw [hv] at hev
          subst hev
          have hR' : R = (s' j).ar := by rw [hR]; unfold Acc.toldR; rw [if_pos hr]
          have hN' : N = (s' j).an := by rw [hN]; unfold Acc.toldN; rw [if_pos hr]
          have hL' : (s' j).toldL r nn = (s' j).led := by unfold Acc.toldL; rw [if_pos hr]
          rw [hL'] at hLq
          by_cases hsj : seen j = true
          · have cS := (hs2.cell j).trans ((bls_get hj).trans (by rw [hsj]))
            have HM := Lib.hid hI'
            clear hI' hs2 hn2 hBq hLq
            go_wp2_with (fail)
            go_roundw
            case rel => exact ⟨k + 1, P, by omega, by go_num, rfl, _, _, _, _, _, hP, HM.out⟩
            case measure => simp [intOf]; omega
          · rw [Bool.not_eq_true] at hsj
            have cS := (hs2.cell j).trans ((bls_get hj).trans (by rw [hsj]))
            have frS := hs2.frozen j
            go_upto_region 14 with (fail)
            obtain ⟨hsM, hnM, hyM, hxM, hlo⟩ : (M' sb ∨ sb = q) ∧ (M' nb ∨ nb = q) ∧ (M' y ∨ y = q) ∧ ¬ (M' x ∨ x = q) ∧ (w.heap.size ≤ x ∧ w.heap.size ≤ y ∧ w.heap.size ≤ sb ∧ w.heap.size ≤ nb) := ⟨hI'.sM, hI'.nM, hI'.yM, hI'.xM, hI'.lo⟩
            have hsx : x ≠ sb := blk_ne hI'.hx hs2 (by decide)
            have hsn : nb ≠ sb := blk_ne hn2 hs2 (by decide)
            have hsy : y ≠ sb := blk_ne hI'.hy hs2 (by decide)
            refine wp_letter (fun W9 => Askd M w B n half K g (some ⟨bA, oA, none⟩) v r nn (fun k => M' k ∨ k = q) (upd s' j ((s' j).prep r nn)) seen m L u12 W9 ∧ Blk W9 sb 4 (bls (upd seen j true) n) ∧ Blk W9 nb 23 #[.int .i64 m.1, .int .i64 m.2] ∧ Blk W9 x 45 #[.int .i64 r, .int .i64 nn, .slice (some ⟨tb, tq, none⟩) na ca, .slice At kt ct, .int .i64 tag, .bool late] ∧
                Blk W9 y 48 #[.int .i64 0, .int .i64 0, .slice none 0 0, .slice none 0 0] ∧ Blk W9 q 23 #[.int .i64 R, .int .i64 N] ∧ Lf (fun k => M' k ∨ k = q) W9 (.slice C kk cc) (s' j).led)
              ⟨hI'.ask.keep ((Fr.refl _ (· = sb) _).setCell (p := ⟨sb, j, none⟩) (.inl rfl) _) (fun k hk => by subst hk; exact ⟨hsM, hlo.2.2.1⟩), by rw [← bls_set]; exact hs2.set_ j _, hn2.far (p := ⟨sb, j, none⟩) hsn _, hI'.hx.far (p := ⟨sb, j, none⟩) hsx _, hI'.hy.far (p := ⟨sb, j, none⟩) hsy _, hBq.far (p := ⟨sb, j, none⟩) hqs _, hLq.fr ((Fr.refl _ (· = sb) _).setCell (p := ⟨sb, j, none⟩) (.inl rfl) _) (Nat.le_refl _) (fun k hk => by subst hk; exact hsM)⟩ ?_
            clear hI' hs2 hn2 hBq hLq cS frS
            rintro W9 ⟨hA9, hS9, hN9, hX9, hY9, hQ9, hL9⟩
            have hP' : Hid (wrap64 (P + 1) = (cnt n (upd seen j true) : Nat)) := by
              have h1 : P = (cnt n seen : Nat) := hP
              have h2 := cnt_upd hj hsj
              have h3 := cnt_le n (upd seen j true)
              show wrap64 (P + 1) = _
              unfold wrap64
              omega
            have hrQ : W9.rangeAt q 0 [.int .i64 R, .int .i64 N] := Blk.range hQ9
            have hrN : W9.rangeAt nb 0 [.int .i64 m.1, .int .i64 m.2] := Blk.range hN9
            obtain ⟨m1, m2⟩ := m
            simp only at hrN hN9
            have hab := rabove_any R N m1 m2 W9
            cases hq : ab R N m1 m2 with
            | false =>
              rw [hq] at hab
              have hnb : ¬ blt (m1, m2) ((s' j).ar, (s' j).an) := fun h => by
                have := ab_blt.2 h
                rw [← hR', ← hN', hq] at this
                cases this
              have HC := Lib.hid hab
              have HA := Lib.hid (show AskInv M w B n half K g (some ⟨bA, oA, none⟩) v r nn tag (.slice (some ⟨tb, tq, none⟩) na ca) (.slice At kt ct) late x y sb nb (fun k => M' k ∨ k = q) (upd s' j ((s' j).prep r nn)) (upd seen j true) (m1, m2) L u12 W9 from
                ⟨hA9.count hTold hj hr hnb, hsM, hnM, hyM, hxM, hS9, hN9, hX9, hY9, hlo⟩)
              clear hab hA9 hS9 hN9 hX9 hY9 hQ9 hL9 hR hN hR' hN' hr hnb hq
              go_wp2_with (first
                | ((with_reducible refine law_load 23 (.tmp 16) q 0 [.int .i64 R, .int .i64 N] ?_ hrQ Tryd.underlying23 ?_ ?_ ?_); rfl; rfl; exact bal_inf2)
                | ((with_reducible refine law_load 23 (.tmp 11) nb 0 [.int .i64 m1, .int .i64 m2] ?_ hrN Tryd.underlying23 ?_ ?_ ?_); rfl; rfl; exact bal_inf2)
                | fail)
              refine HC.out.mono ?_
              rintro e W10 ⟨rfl, b10⟩
              go_wp2_with (fail)
              go_roundw
              case rel => exact ⟨k + 1, _, by omega, by go_num, rfl, _, _, _, _, _, hP', HA.out.below b10⟩
              case measure => simp [intOf]; omega
            | true =>
              rw [hq] at hab
              have hnb : blt (m1, m2) ((s' j).ar, (s' j).an) := by
                rw [← hR', ← hN']
                exact ab_blt.1 hq
              have HC := Lib.hid hab
              have HRN := Lib.hid (And.intro hR' hN')
              have HA := Lib.hid (And.intro (hA9.newer hTold hj hr hnb hL9 hshj) (And.intro hS9 (And.intro hN9 (And.intro hX9 (And.intro hY9 hQ9)))))
              clear hab hA9 hS9 hN9 hX9 hY9 hQ9 hL9 hR hN hR' hN' hr hnb hq
              go_upto_region 15 with (first
                | ((with_reducible refine law_load 23 (.tmp 16) q 0 [.int .i64 R, .int .i64 N] ?_ hrQ Tryd.underlying23 ?_ ?_ ?_); rfl; rfl; exact bal_inf2)
                | ((with_reducible refine law_load 23 (.tmp 11) nb 0 [.int .i64 m1, .int .i64 m2] ?_ hrN Tryd.underlying23 ?_ ?_ ?_); rfl; rfl; exact bal_inf2)
                | (go_at_call 24
                   refine HC.out.mono ?_
                   rintro e W10 ⟨rfl, b10⟩)
                | fail)
              have hN10 := HA.out.2.2.1.below b10 HA.out.2.2.1.lt
              have hQ10 := HA.out.2.2.2.2.2.below b10 HA.out.2.2.2.2.2.lt
              have cQ0 := hQ10.cell 0
              have cQ1 := hQ10.cell 1
              have cN0 := hN10.cell 0
              have cN1 := hN10.cell 1
              have fN0 := hN10.frozen 0
              have fN1 := hN10.frozen 1
              have HB := Lib.hid b10
              have HD := Lib.hid (And.intro hsM (And.intro hnM (And.intro hyM (And.intro hxM (And.intro hlo (And.intro hsx (And.intro hsn hsy)))))))
              clear hN10 hQ10 b10 hsM hnM hyM hxM hlo hsx hsn hsy hrQ hrN
              go_wp2_with (fail)
              go_roundw
              case rel =>
                obtain ⟨hsM, hnM, hyM, hxM, hlo, hsx, hsn, hsy⟩ := HD.out
                obtain ⟨a1, a2, a3, a4, a5, a6⟩ := HA.out
                have b10 := HB.out
                have f11 := Fr.two W10 nb (.int .i64 R) (.int .i64 N)
                have hX10 := a4.below b10 a4.lt
                have hY10 := a5.below b10 a5.lt
                have hS10 := a2.below b10 a2.lt
                have hN10 := a3.below b10 a3.lt
                have hxn := blk_ne hX10 hN10 (by decide)
                have hyn := blk_ne hY10 hN10 (by decide)
                refine ⟨k + 1, _, by omega, by go_num, rfl, _, _, _, _, _, hP', (a1.below b10).keep f11 (fun k hk => by subst hk; exact ⟨hnM, hlo.2.2.2⟩), hsM, hnM, hyM, hxM, hS10.fr f11 hS10.lt (Ne.symm hsn), ?_, hX10.fr f11 hX10.lt hxn, hY10.fr f11 hY10.lt hyn, hlo⟩
                have := (hN10.set_ 0 (.int .i64 R)).set_ 1 (.int .i64 N)
                rw [← HRN.out.1, ← HRN.out.2]
                exact this
              case measure => simp [intOf]; omega
        · obtain ⟨a, ha⟩ : ∃ a, er = errv a := by
            rw [her]
            rcases refuse_cases (s' j) r nn with ⟨_, h⟩ | ⟨_, _, h⟩ | ⟨_, _, h⟩
            · exact ⟨Ad 0, by rw [h]; rfl⟩
            · exact ⟨Ad 3, by rw [h]; rfl⟩
            · exact absurd h hr
          rw [ha] at hev
          subst hev
          have HM := Lib.hid hI'
          clear hI' hs2 hn2 hBq hLq
          go_wp2_with (fail)
          go_roundw
          case rel => exact ⟨k + 1, P, by omega, by go_num, rfl, _, _, _, _, _, hP, HM.out⟩
          case measure => simp [intOf]; omega
    · have hkn : k = na := by omega
      subst hkn
      obtain ⟨lo1, hi1, hled, hhi1, hMl⟩ := hI.ask.led
      obtain ⟨AL, cL, rfl, _⟩ := hled.form
      obtain ⟨nL, hnL⟩ : ∃ nL, nL = L.length := ⟨_, rfl⟩
      rw [← hnL] at hI hled ⊢
      have cX := hI.hx.cell
      have hxl := hI.hx.lt
      have HNL := Lib.hid hnL
      have kc : ∀ W, Below wr.heap.size wr W → Calls Tryd.prog 42 #[.slice AL nL cL] W (CopyPost W L) := fun W b => rcopy_any W lo1 hi1 _ L (hled.fr (Fr.of_below b (fun _ => False)) hhi1 (fun _ _ _ h => h)) (Nat.le_trans hhi1 b.size)
      have HC := Lib.hid kc
      have HI := Lib.hid hI
      clear hI kc hled hnL hMl hhi1
      go_upto_region 17 with (fail)
      go_cut [12] (fun lv wx => ∃ A' c', lv = .slice A' (nL + 1) c' ∧ OwnLed wx wr.heap.size wx.heap.size (.slice A' (nL + 1) c') (L ++ [tagged r nn tag]) ∧ Below wr.heap.size wr wx)
      case first =>
        have hd : Below wr.heap.size wr wr.drew := (Below.refl _ _).drew
        have ha : Below wr.heap.size wr ((wr.alloc (.cells #[.int .i64 10, .int .i64 nn, .int .i64 0, .int .i64 r, .string ⟨#[]⟩, .string ⟨#[]⟩, .int .i64 0, .int .i64 0, .int .i64 0, .int .i64 0, .int .i64 0, .int .i64 0, .int .i64 0, .string ⟨#[]⟩, .int .i64 0, .slice none 0 0, .int .i64 tag, .int .i64 0] 81)).drew) := ((Below.refl _ _).alloc (Nat.le_refl _) _).drew
        have HB := Lib.hid (And.intro hd ha)
        have HKX := Lib.hid (show ∀ W, Below wr.heap.size wr W → W.cell? ⟨x, 0, none⟩ = some (.int .i64 r) ∧ W.cell? ⟨x, 1, none⟩ = some (.int .i64 nn) ∧ W.cell? ⟨x, 4, none⟩ = some (.int .i64 tag) from
          fun W b => ⟨(b.cell (p := ⟨x, 0, none⟩) hxl).trans (cX 0), (b.cell (p := ⟨x, 1, none⟩) hxl).trans (cX 1), (b.cell (p := ⟨x, 4, none⟩) hxl).trans (cX 4)⟩)
        have hn2 : ¬ x = wr.heap.size := by omega
        have hK2 : (nL + 1) * 184 ≤ 140737488355328 := by have := HI.out.ask.hL; have := HNL.out; omega
        have HK2 := Lib.hid hK2
        have HA1 := Lib.hid (show ∀ (w1 : World) (A1 : Option Addr) (c1 : Nat), OwnLed w1 wr.heap.size w1.heap.size (.slice A1 nL c1) L → Below wr.heap.size wr w1 → OwnLed (w1.alloc (.cells #[.int .i64 10, .int .i64 nn, .int .i64 0, .int .i64 r, .string ⟨#[]⟩, .string ⟨#[]⟩, .int .i64 0, .int .i64 0, .int .i64 0, .int .i64 0, .int .i64 0, .int .i64 0, .int .i64 0, .string ⟨#[]⟩, .int .i64 0, .slice none 0 0, .int .i64 tag, .int .i64 0] 81)) wr.heap.size (w1.alloc (.cells #[.int .i64 10, .int .i64 nn, .int .i64 0, .int .i64 r, .string ⟨#[]⟩, .string ⟨#[]⟩, .int .i64 0, .int .i64 0, .int .i64 0, .int .i64 0, .int .i64 0, .int .i64 0, .int .i64 0, .string ⟨#[]⟩, .int .i64 0, .slice none 0 0, .int .i64 tag, .int .i64 0] 81)).heap.size (.slice A1 nL c1) L ∧ wr.heap.size ≤ (w1.alloc (.cells #[.int .i64 10, .int .i64 nn, .int .i64 0, .int .i64 r, .string ⟨#[]⟩, .string ⟨#[]⟩, .int .i64 0, .int .i64 0, .int .i64 0, .int .i64 0, .int .i64 0, .int .i64 0, .int .i64 0, .string ⟨#[]⟩, .int .i64 0, .slice none 0 0, .int .i64 tag, .int .i64 0] 81)).heap.size ∧ Blk (w1.alloc (.cells #[.int .i64 10, .int .i64 nn, .int .i64 0, .int .i64 r, .string ⟨#[]⟩, .string ⟨#[]⟩, .int .i64 0, .int .i64 0, .int .i64 0, .int .i64 0, .int .i64 0, .int .i64 0, .int .i64 0, .string ⟨#[]⟩, .int .i64 0, .slice none 0 0, .int .i64 tag, .int .i64 0] 81)) w1.heap.size 81 ((tagged r nn tag).cells (.slice none 0 0)).toArray ∧ ∀ W', Below wr.heap.size (w1.alloc (.cells #[.int .i64 10, .int .i64 nn, .int .i64 0, .int .i64 r, .string ⟨#[]⟩, .string ⟨#[]⟩, .int .i64 0, .int .i64 0, .int .i64 0, .int .i64 0, .int .i64 0, .int .i64 0, .int .i64 0, .string ⟨#[]⟩, .int .i64 0, .slice none 0 0, .int .i64 tag, .int .i64 0] 81)) W' → Below wr.heap.size wr W' from
          fun w1 A1 c1 o1 b1 => ⟨(o1.fr (Fr.of_below ((Below.refl w1.heap.size w1).alloc (Nat.le_refl _) (.cells #[.int .i64 10, .int .i64 nn, .int .i64 0, .int .i64 r, .string ⟨#[]⟩, .string ⟨#[]⟩, .int .i64 0, .int .i64 0, .int .i64 0, .int .i64 0, .int .i64 0, .int .i64 0, .int .i64 0, .string ⟨#[]⟩, .int .i64 0, .slice none 0 0, .int .i64 tag, .int .i64 0] 81)) (fun _ => False)) (Nat.le_refl _) (fun _ _ _ h => h)).wider (Nat.le_refl _) (by simp), Nat.le_trans b1.size (by simp), Blk.new w1 81 _, fun W' B' => (b1.alloc b1.size (.cells #[.int .i64 10, .int .i64 nn, .int .i64 0, .int .i64 r, .string ⟨#[]⟩, .string ⟨#[]⟩, .int .i64 0, .int .i64 0, .int .i64 0, .int .i64 0, .int .i64 0, .int .i64 0, .int .i64 0, .string ⟨#[]⟩, .int .i64 0, .slice none 0 0, .int .i64 tag, .int .i64 0] 81)).trans B'⟩)
        have HA2 := Lib.hid (show ∀ (w1 : World) (A1 : Option Addr) (c1 : Nat), OwnLed w1 (wr.heap.size + 1) w1.heap.size (.slice A1 nL c1) L → Below (wr.alloc (.cells #[.int .i64 10, .int .i64 nn, .int .i64 0, .int .i64 r, .string ⟨#[]⟩, .string ⟨#[]⟩, .int .i64 0, .int .i64 0, .int .i64 0, .int .i64 0, .int .i64 0, .int .i64 0, .int .i64 0, .string ⟨#[]⟩, .int .i64 0, .slice none 0 0, .int .i64 tag, .int .i64 0] 81)).drew.heap.size (wr.alloc (.cells #[.int .i64 10, .int .i64 nn, .int .i64 0, .int .i64 r, .string ⟨#[]⟩, .string ⟨#[]⟩, .int .i64 0, .int .i64 0, .int .i64 0, .int .i64 0, .int .i64 0, .int .i64 0, .int .i64 0, .string ⟨#[]⟩, .int .i64 0, .slice none 0 0, .int .i64 tag, .int .i64 0] 81)).drew w1 → OwnLed w1 wr.heap.size w1.heap.size (.slice A1 nL c1) L ∧ wr.heap.size ≤ w1.heap.size ∧ Blk w1 wr.heap.size 81 ((tagged r nn tag).cells (.slice none 0 0)).toArray from
          fun w1 A1 c1 o1 b1 => ⟨o1.wider (Nat.le_succ _) (Nat.le_refl _), Nat.le_trans (ha.size) b1.size, (Blk.new wr 81 _).drew.below b1 (by simp)⟩)
        clear hd ha hK2
        go_region_held3 (fun w' => w'.cell? ⟨x, 0, none⟩ = some (.int .i64 r) ∧ w'.cell? ⟨x, 1, none⟩ = some (.int .i64 nn) ∧ w'.cell? ⟨x, 4, none⟩ = some (.int .i64 tag)) (go_keep)
          (first
            | (go_at_call 42
               (with_reducible refine (HC.out wr.drew HB.out.1).mono ?_)
               rintro e w1 ⟨v1, rfl, o1, b1⟩
               obtain ⟨A1, c1, hv1, _⟩ := o1.at_.form
               rw [← HNL.out] at hv1
               subst hv1
               have b1' := HB.out.1.trans (b1.mono HB.out.1.size)
               obtain ⟨k1, k2, k3⟩ := HKX.out _ b1'
               have nz2 : ¬ x = w1.heap.size := by have := b1'.size; omega)
            | (go_at_call 42
               (with_reducible refine (HC.out ((wr.alloc (.cells #[.int .i64 10, .int .i64 nn, .int .i64 0, .int .i64 r, .string ⟨#[]⟩, .string ⟨#[]⟩, .int .i64 0, .int .i64 0, .int .i64 0, .int .i64 0, .int .i64 0, .int .i64 0, .int .i64 0, .string ⟨#[]⟩, .int .i64 0, .slice none 0 0, .int .i64 tag, .int .i64 0] 81)).drew) HB.out.2).mono ?_)
               rintro e w1 ⟨v1, rfl, o1, b1⟩
               obtain ⟨A1, c1, hv1, _⟩ := o1.at_.form
               rw [← HNL.out] at hv1
               subst hv1
               have b1' := HB.out.2.trans (b1.mono HB.out.2.size)
               obtain ⟨k1, k2, k3⟩ := HKX.out _ b1')
            | (rw [if_pos (by kernel_rfl)]
               obtain ⟨q1, q2, q3⟩ := HA2.out w1 A1 c1 (by simpa using o1) b1
               refine wp_append_cmd (.tmp 70) (.tmp 81) wr.heap.size wr.heap.size nL (.slice A1 nL c1) L (tagged r nn tag) rfl rfl rfl rfl q1 q2 q3 rfl HNL.out HK2.out ?_
               intro A' c' W' O' B'
               have BB := b1'.trans B'
               obtain ⟨k1, k2, k3⟩ := HKX.out _ BB)
            | (rw [if_pos (by kernel_rfl)]
               obtain ⟨q1, q2, q3, q4⟩ := HA1.out w1 A1 c1 o1 b1'
               refine wp_append_cmd (.tmp 70) (.tmp 81) wr.heap.size w1.heap.size nL (.slice A1 nL c1) L (tagged r nn tag) rfl rfl rfl rfl q1 q2 q3 rfl HNL.out HK2.out ?_
               intro A' c' W' O' B'
               have BB := q4 W' B'
               obtain ⟨k1, k2, k3⟩ := HKX.out _ BB))
        all_goals (go_wp2_with (fail))
        all_goals go_meet
        all_goals exact ⟨_, _, rfl, O', BB⟩
      case rest =>
        obtain ⟨A', c', rfl, hO, hb⟩ := hcut
        have hI := HI.out.below hb
        clear cX
        have cX := hI.hx.cell
        have cY0 := hI.hy.cell 0
        have cY1 := hI.hy.cell 1
        have cY2 := hI.hy.cell 2
        have cY3 := hI.hy.cell 3
        have fY := hI.hy.frozen
        have hxy := blk_ne hI.hx hI.hy (by decide)
        have HJ := Lib.hid hI
        have HO := Lib.hid hO
        clear hI hO hb
        go_wp2_with (fail)
        have cy : ∀ i, ((((wc.setCell ⟨y, 0, none⟩ (.int .i64 r)).setCell ⟨y, 1, none⟩ (.int .i64 nn)).setCell ⟨y, 2, none⟩ (.slice A' (nL + 1) c')).setCell ⟨y, 3, none⟩ (.slice At kt ct)).cell? ⟨y, i, none⟩ = (#[.int .i64 r, .int .i64 nn, .slice A' (nL + 1) c', .slice At kt ct] : Array Value)[i]? :=
          ((((HJ.out.hy.set_ 0 (.int .i64 r)).set_ 1 (.int .i64 nn)).set_ 2 (.slice A' (nL + 1) c')).set_ 3 (.slice At kt ct)).cell
        have f : Fr wc.heap.size (· = y) wc ((((wc.setCell ⟨y, 0, none⟩ (.int .i64 r)).setCell ⟨y, 1, none⟩ (.int .i64 nn)).setCell ⟨y, 2, none⟩ (.slice A' (nL + 1) c')).setCell ⟨y, 3, none⟩ (.slice At kt ct)) :=
          ((((Fr.refl wc.heap.size (· = y) wc).setCell (p := ⟨y, 0, none⟩) (.inl rfl) _).setCell (p := ⟨y, 1, none⟩) (.inl rfl) _).setCell (p := ⟨y, 2, none⟩) (.inl rfl) _).setCell (p := ⟨y, 3, none⟩) (.inl rfl) _
        have hP' : P = (cnt n seen : Nat) := hP
        exact bodyPost_ret (v := .tuple #[.agg #[.int .i64 r, .int .i64 nn, .slice A' (nL + 1) c', .slice At kt ct], .bool (decide ((half : Int) ≤ P))]) (by simp [results, Tryd.results27, go_sem, cy]) rfl
          (HJ.out.post HO.out (fun q hq => HI.out.ask.lt q hq) hacc.in_ hP' hnew f (fun hd => by simpa using hd))

end Go.Proofs.YtnlncfjibbdimaaDoor
