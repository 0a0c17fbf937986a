/-
  RoundHalves: a round needs promises and then acceptings of just more than half, from unlike nodes, whoever they are.
-/
import Derived.Test.YtnlncfjibbdimaaDoorN13
import Derived.Test.YtnlncfjibbdimaaDoorSameL
import Derived.Test.YtnlncfjibbdimaaDoorInLaw
import Derived.Deep.DeepCutAuto
namespace Go.Proofs.YtnlncfjibbdimaaDoor
open Go.RowKit
set_option linter.unusedSimpArgs false
set_option linter.unusedVariables false

section
variable {P : Program} {a : Act} {d : Option Tmp} {tp : TypeId} {ps : String} {af : Array Edge} {gd : Option (Nat × Bool)} {C : World → Prop} {K : Act → Prop}
/-- In a region that only reads: a whole row is loaded, behind a guard. -/
theorem law_quiet_load_g (ty : TypeId) (x : Operand) (b o : Nat) (cs : List Value) (hx : a.eval x = .pointer (some ⟨b, o, none⟩)) (hS : ∀ w, C w → w.rangeAt b o cs)
    {ds : TypeDesc} (hu : P.underlying ty = some ds) (hd : ds.isRow = true) (hi : (P.info? ty).map (·.size) = some cs.length)
    (h : K (a.put d (.agg cs.toArray))) : Oper.quiet P { dst := d, op := .load ty x, type := tp, pos := ps, after := af, guard := gd } a C K :=
  ⟨_, fun w hw' => by
    unfold Oper.quietAt execOp
    simp only [hx, Instr.loadAt, Instr.sureAddr, Sem.run_bind, Sem.run_pure, Result.andThen_ok, run_loadVar_mid w b o ty cs ds (hS w hw') hu hd hi]
    exact ⟨rfl, rfl⟩, h⟩
end

/-- The round in stage t. -/
def hvR (c : Cmd) (t : Nat) : Rnd := ⟨c, false, 3, 1, t, 0, 0, if t = 1 then [] else [c], 1⟩
theorem half_iff {n q : Nat} (hn : 0 < n) : half n ≤ (q : Int) ↔ ¬ 2 * q ≤ n := by
  have e : half n = ((n / 2 + 1 : Nat) : Int) := by unfold half; rw [if_neg (by omega)]; omega
  rw [e]
  omega
theorem put_nil (c : Cmd) : putL [] c = some [c] := by
  unfold putL
  have : idxN [] c.idn c.idb c.ids = -1 := rfl
  rw [this, if_neg (by omega), if_neg (by simp)]
  rfl
theorem idx_self (c : Cmd) : idxN [c] c.idn c.idb c.ids = 0 := by
  have : idB c c.idn c.idb c.ids = true := by simp [idB, eq3]
  unfold idxN
  simp [List.findIdx?_cons, this]
theorem hvR_told {n j : Nat} {seen : Nat → Bool} (c : Cmd) (hn : 0 < n) :
    (hvR c 1).promised n seen j 0 0 [] = hvR c (if 2 * cnt n (upd seen j true) ≤ n then 1 else 2) ∧ promF n seen j = (if 2 * cnt n (upd seen j true) ≤ n then upd seen j true else fun _ => false) := by
  have e1 : (hvR c 1).newer 0 0 [] = hvR c 1 := by
    unfold Rnd.newer
    rw [if_neg (by unfold hvR ab; simp)]
  unfold Rnd.promised promF
  rw [e1]
  by_cases h : 2 * cnt n (upd seen j true) ≤ n
  · rw [if_neg (fun hc => (half_iff hn).1 hc h), if_neg (fun hc => (half_iff hn).1 hc h), if_pos h, if_pos h]
    exact ⟨rfl, rfl⟩
  · rw [if_pos ((half_iff hn).2 h), if_pos ((half_iff hn).2 h), if_neg h, if_neg h]
    refine ⟨?_, rfl⟩
    unfold Rnd.tell
    rw [if_neg (fun hc => by cases hc)]
    have : putL (hvR c 1).led (hvR c 1).cmd = some [c] := put_nil c
    rw [this]
    rfl
theorem hvR_acc {n j : Nat} {seen : Nat → Bool} (c : Cmd) (hn : 0 < n) :
    ({ hvR c 2 with stage := if half n ≤ (cnt n (upd seen j true) : Nat) then 3 else 2 } : Rnd) = hvR c (if 2 * cnt n (upd seen j true) ≤ n then 2 else 3) := by
  by_cases h : 2 * cnt n (upd seen j true) ≤ n
  · rw [if_neg (fun hc => (half_iff hn).1 hc h), if_pos h]
    rfl
  · rw [if_pos ((half_iff hn).2 h), if_neg h]
    rfl
theorem hvR_end (c : Cmd) : (hvR c 3).stage = 3 ∧ (hvR c 3).tells = [c] ∧ (hvR c 3).place = 1 := by
  refine ⟨rfl, rfl, ?_⟩
  unfold Rnd.place
  rw [if_pos (by rfl), if_neg (fun h => by cases h)]
  show idxN [c] c.idn c.idb c.ids + 1 = 1
  rw [idx_self]
  rfl

/-- A ledger that does not lie in block sb. -/
def LedOut (W : World) (B sb : Nat) (lv : Value) (l : List Cmd) : Prop := ∃ lo hi, B ≤ lo ∧ hi ≤ W.heap.size ∧ LedAt W lo hi lv l ∧ (sb < lo ∨ hi ≤ sb)
theorem LedOut.fr {W W' : World} {B B' sb : Nat} {lv : Value} {l : List Cmd} {S : Nat → Prop} (h : LedOut W B sb lv l) (f : Fr B' S W W') (hB : W.heap.size ≤ B') (hS : ∀ q, S q → q < B ∨ q = sb) : LedOut W' B sb lv l := by
  obtain ⟨lo, hi, h1, h2, h3, h4⟩ := h
  exact ⟨lo, hi, h1, Nat.le_trans h2 f.size, h3.fr f (by omega) (fun q q1 q2 e => by have := hS q e; omega), h4⟩
theorem LedOut.new {W : World} {B sb sb' : Nat} {lv : Value} {l : List Cmd} (h : LedOut W B sb lv l) (hs : W.heap.size ≤ sb') : LedOut W B sb' lv l := by
  obtain ⟨lo, hi, h1, h2, h3, h4⟩ := h
  exact ⟨lo, hi, h1, h2, h3, .inr (by omega)⟩
theorem RndAt.foreign2 {w w' : World} {B g ga n sb : Nat} {f : Nat → Bool} {r : Rnd} {pv lv : Value} {S : Nat → Prop} (h : RndAt w B g ga n f r pv lv) (hl : LedOut w B sb lv r.led) (F : Fr w.heap.size S w w') (hS : ∀ q, S q → B ≤ q ∧ q = sb) : RndAt w' B g ga n f r pv lv := by
  have h1 := h.hg
  have h2 := h.hga
  have h3 := h.hB
  obtain ⟨lo, hi, l1, l2, l3, l4⟩ := hl
  refine ⟨h1, h2, h.ne, Nat.le_trans h3 F.size, h.row.fr F h.row.lt (fun e => by have := hS _ e; omega), h.ans.fr F h.ans.lt (fun e => by have := hS _ e; omega), ?_, (l3.fr F l2 (fun q q1 q2 e => by have := hS _ e; omega)).wider l1 (Nat.le_trans l2 F.size), h.sz⟩
  obtain ⟨p0, q1, q2, q3⟩ := h.parts
  exact ⟨p0, q1, q2, q3.fr F (by omega) (fun k _ hk he => by have := hS _ he; omega)⟩
/-- What the rounds of a stage keep. -/
structure HvIn (w : World) (B g ga n s i no : Nat) (pv lv : Value) (c : Cmd) (sb : Nat) (seen f : Nat → Bool) (t q : Nat) (W : World) : Prop where
  rs : RS w B g ga n f (hvR c t) pv lv W
  b : Blk W B 23 #[.int .i64 3, .int .i64 1]
  row : Blk W sb 4 (bls seen n)
  cq : q = cnt n seen
  few : 2 * q ≤ n → t = s ∧ f = seen
  many : ¬ 2 * q ≤ n → t = s + 1 ∧ (s = 1 → f = fun _ => false)
  all : ∀ j, j + no < i → j < n → seen j = true
  led : LedOut W B sb lv (hvR c t).led
  ord : sb ≠ g ∧ sb ≠ ga ∧ sb ≠ B ∧ g < B ∧ ga < B ∧ B < sb
section
variable {w W W' : World} {B g ga n s i no sb t q : Nat} {pv lv : Value} {c : Cmd} {seen f : Nat → Bool}
theorem HvIn.below (h : HvIn w B g ga n s i no pv lv c sb seen f t q W) (b : Below W.heap.size W W') : HvIn w B g ga n s i no pv lv c sb seen f t q W' :=
  ⟨h.rs.below b, h.b.below b h.b.lt, h.row.below b h.row.lt, h.cq, h.few, h.many, h.all, h.led.fr (Fr.of_below b (fun _ => False)) (Nat.le_refl _) (fun _ h => h.elim), h.ord⟩
theorem HvIn.full (h : HvIn w B g ga n s i no pv lv c sb seen f t q W) (hn : 0 < n) (hi : no + n ≤ i) : ¬ 2 * q ≤ n := by
  have : cnt n seen = n := by
    have e : cnt n seen = cnt n (fun j => decide (j < n)) := cnt_congr fun j hj => by rw [h.all j (by omega) hj]; simp [hj]
    have cb : ∀ k, k ≤ n → cnt n (fun j => decide (j < k)) = k := fun k => by
      induction k with
      | zero =>
        intro _
        have : cnt n (fun j => decide (j < 0)) = cnt n (fun _ => false) := cnt_congr fun i _ => by simp
        rw [this, cnt_zero]
      | succ k ih =>
        intro hk
        have e : (fun j => decide (j < k + 1)) = upd (fun j => decide (j < k)) k true := by
          funext j
          unfold upd
          split
          · rename_i e; subst e; simp
          · rename_i e
            show decide (j < k + 1) = decide (j < k)
            congr 1
            apply propext
            omega
        rw [e, cnt_upd (by omega) (by simp), ih (by omega)]
    rw [e, cb n (Nat.le_refl _)]
  have := h.cq
  omega
/-- One that had answered is asked again. -/
theorem HvIn.again (h : HvIn w B g ga n s i no pv lv c sb seen f t q W) {j : Nat} (hij : i < no ∨ j + no = i) (hs : seen j = true) : HvIn w B g ga n s (i + 1) no pv lv c sb seen f t q W :=
  ⟨h.rs, h.b, h.row, h.cq, h.few, h.many, fun k h1 h2 => by
    by_cases e : k + no < i
    · exact h.all k e h2
    · obtain rfl : k = j := by omega
      exact hs, h.led, h.ord⟩
/-- One more answers. -/
theorem HvIn.count (h : HvIn w B g ga n s i no pv lv c sb seen f t q W) {j : Nat} (hj : j < n) (hs : seen j = false) (hij : i < no ∨ j + no = i) {f' : Nat → Bool} {t' : Nat} {lv' : Value} (R : RS w B g ga n f' (hvR c t') pv lv' W') (F : Fr W.heap.size (fun k => k = g ∨ k = ga) W W')
    (hl : (lv' = lv ∧ (hvR c t').led = (hvR c t).led) ∨ OwnLed W' W.heap.size W'.heap.size lv' (hvR c t').led)
    (hfew : 2 * cnt n (upd seen j true) ≤ n → t' = s ∧ f' = upd seen j true) (hmany : ¬ 2 * cnt n (upd seen j true) ≤ n → t' = s + 1 ∧ (s = 1 → f' = fun _ => false)) :
    HvIn w B g ga n s (i + 1) no pv lv' c sb (upd seen j true) f' t' (q + 1) (W'.setCell ⟨sb, j, none⟩ (.bool true)) := by
  obtain ⟨o1, o2, o3, o4, o5, o6⟩ := h.ord
  have hcq := h.cq
  have hcu := cnt_upd hj hs
  have hsl := h.row.lt
  have hlo : LedOut W' B sb lv' (hvR c t').led := by
    rcases hl with ⟨rfl, e⟩ | ho
    · rw [e]
      exact h.led.fr F (Nat.le_refl _) (fun q e => by omega)
    · exact ⟨_, _, by have := h.rs.at_.hB; omega, Nat.le_refl _, ho.at_, .inl hsl⟩
  have f2 : Fr W'.heap.size (fun k => k = sb) W' (W'.setCell ⟨sb, j, none⟩ (.bool true)) := (Fr.refl W'.heap.size (fun k => k = sb) W').setCell (p := ⟨sb, j, none⟩) (.inl rfl) _
  have hrow := (h.row.fr F hsl (by omega)).set_ j (.bool true)
  rw [bls_set] at hrow
  have hwB := h.rs.lo
  refine ⟨⟨R.at_.foreign2 hlo f2 (fun k e => ⟨by omega, e⟩), R.bel.trans ((f2.mono R.bel.size (S' := fun _ => False) (fun k hk e => by omega)).below (fun _ _ h => h)), R.lo, R.pos⟩, (h.b.fr F h.b.lt (by omega)).fr f2 (by have := h.b.lt; have := F.size; omega) (by omega), hrow, by omega, fun e => hfew (by omega), fun e => hmany (by omega), fun k h1 h2 => ?_, hlo.fr f2 (Nat.le_refl _) (fun k e => .inr e), h.ord⟩
  unfold upd
  split
  · rfl
  · rename_i hne
    by_cases e : k + no < i
    · exact h.all k e h2
    · omega
end

set_option maxRecDepth 100000 in
set_option maxHeartbeats 3200000 in
theorem roundHalves_any (w : World) (A : Nat → Addr) (hE : E13 w A) (nodes : Int) (c : Cmd) (hz : c.Sized) (pv0 : Value) (hp : IntsAt w 0 w.heap.size pv0 c.parts) (ov : Value) (order : List Int) (hO : IntsAt w 0 w.heap.size ov order) :
    Calls Tryd.prog 11 #[.int .i64 nodes, .agg (c.cells pv0).toArray, ov] w fun e w' => e = .returned (.bool true) ∧ Below w.heap.size w w' := by
  obtain ⟨Oa, oc, rfl, ho1, ho2, _, ho3⟩ := hO
  obtain ⟨no, hno⟩ : ∃ no, no = order.length := ⟨_, rfl⟩
  rw [← hno] at ho1 ho3 ⊢
  have hno63 : no ≤ 9223372036854775807 := by simp only [maxLen] at ho2; omega
  have bA : Below w.heap.size w (w.alloc (.cells (c.cells pv0).toArray 81)) := (Below.refl _ _).alloc (Nat.le_refl _) _
  have hX := Blk.new w 81 (c.cells pv0).toArray
  have k52 := alive13_any (w.alloc (.cells (c.cells pv0).toArray 81)) A (hE.below bA)
  obtain ⟨j, hj, hwj⟩ := whichN nodes (n := 16) (by omega) (by omega)
  have hwj' : (wrap64 (nodes.tmod 16 + 16)).tmod 16 = (j : Int) := hwj
  clear hwj
  obtain ⟨n, hn⟩ : ∃ n, n = j + 1 := ⟨_, rfl⟩
  have hw1 : wrap64 ((j : Int) + 1) = (n : Int) := by unfold wrap64; omega
  have hn7 : 0 < n ∧ n ≤ 16 := by omega
  have HK := Lib.hid (And.intro k52 (And.intro hE (And.intro hX (And.intro bA (And.intro hp (And.intro ho3 hno))))))
  have HN := Lib.hid hn7
  clear k52 hE hn hj hX bA hp ho3 hno ho1 ho2
  go_enter Tryd.func11, Tryd.ntmps11
  go_upto_region 4 with (first
    | (go_at_call 52; refine HK.out.1.mono ?_; rintro e w1 ⟨rfl, b1⟩; have H1 := Lib.hid b1; clear b1)
    | fail)
  rw [hw1]
  clear hw1 hwj'
  obtain ⟨x, hx⟩ : ∃ x, x = w.heap.size := ⟨_, rfl⟩
  have hX1 : Blk w1 x 81 (c.cells pv0).toArray := by rw [hx]; exact HK.out.2.2.1.below H1.out HK.out.2.2.1.lt
  have hb1 : Below w.heap.size w w1 := HK.out.2.2.2.1.trans (H1.out.mono HK.out.2.2.2.1.size)
  rw [← hx]
  have hr := hX1.range
  have k46 := inForm_any c hz w1 0 w.heap.size pv0 (HK.out.2.2.2.2.1.fr (Fr.of_below hb1 (fun _ => False)) (Nat.le_refl _) (fun _ _ _ h => h)) hb1.size
  rw [in_chk] at k46
  have H2 := Lib.hid (And.intro hb1 (And.intro hX1 hx))
  clear hX1 hb1 hx H1
  cases hc : chkB c with
  | false =>
    rw [hc] at k46
    have HI := Lib.hid k46
    clear k46 hc
    go_wp2_with (first
      | ((with_reducible refine law_load 81 (.tmp 4) x 0 (c.cells pv0) ?_ hr Tryd.underlying81 ?_ ?_ ?_); rfl; rfl; exact cmd_info)
      | (go_at_call 46; refine HI.out.mono ?_; rintro e w2 ⟨rfl, b2⟩; have H3 := Lib.hid b2; clear b2)
      | fail)
    go_ret
    exact ⟨rfl, H2.out.1.trans (H3.out.mono H2.out.1.size)⟩
  | true =>
    rw [hc] at k46
    have HI := Lib.hid (And.intro k46 hc)
    clear k46 hc
    by_cases hlong : (no : Int) > 200
    · go_wp2_with (first
        | ((with_reducible refine law_load 81 (.tmp 4) x 0 (c.cells pv0) ?_ hr Tryd.underlying81 ?_ ?_ ?_); rfl; rfl; exact cmd_info)
        | (go_at_call 46; refine HI.out.1.mono ?_; rintro e w2 ⟨rfl, b2⟩; have H3 := Lib.hid b2; clear b2)
        | fail)
      go_ret
      exact ⟨rfl, H2.out.1.trans (H3.out.mono H2.out.1.size)⟩
    · go_upto_region 6 with (first
        | ((with_reducible refine law_load 81 (.tmp 4) x 0 (c.cells pv0) ?_ hr Tryd.underlying81 ?_ ?_ ?_); rfl; rfl; exact cmd_info)
        | (go_at_call 46; refine HI.out.1.mono ?_; rintro e w2 ⟨rfl, b2⟩; have H3 := Lib.hid b2; clear b2)
        | fail)
      have hb2 := H2.out.1.trans (H3.out.mono H2.out.1.size)
      have hX2 := H2.out.2.1.below H3.out H2.out.2.1.lt
      have k53 := new13_cmd w2 n c hz pv0 0 w.heap.size (HK.out.2.2.2.2.1.fr (Fr.of_below hb2 (fun _ => False)) (Nat.le_refl _) (fun _ _ _ h => h)) hb2.size ⟨by omega, by omega⟩ (A 1) ((HK.out.2.1.below hb2) 1 (by simp)) HI.out.2
      have H4 := Lib.hid (And.intro hb2 (And.intro hX2 k53))
      have hr2 := hX2.range
      clear hb2 hX2 k53 hr
      go_upto_region 7 with (first
        | ((with_reducible refine law_load 81 (.tmp 4) x 0 (c.cells pv0) ?_ hr2 Tryd.underlying81 ?_ ?_ ?_); rfl; rfl; exact cmd_info)
        | (go_at_call 53
           refine H4.out.2.2.mono ?_
           rintro e w3 h3
           obtain ⟨ga, pv, rfl, R3, b3⟩ := RS.of_new H4.out.1 HN.out.1 h3
           have X3 := H4.out.2.1.below b3 H4.out.2.1.lt
           have H5 := Lib.hid (And.intro R3 X3)
           clear R3 b3 h3 X3)
        | fail)
      clear hr2
      go_upto_region 8 with (fail)
      refine wp_letter (fun W => RS w w3.heap.size (ga + 1) ga n (fun _ => false) ⟨c, false, 0, 0, 0, 0, 0, [], 0⟩ pv (.slice none 0 0) W ∧ Blk W w3.heap.size 23 #[.int .i64 3, .int .i64 1] ∧ Blk W x 81 (c.cells pv0).toArray)
        ⟨H5.out.1.below ((Below.refl _ _).alloc (Nat.le_refl _) _), Blk.new w3 23 _, H5.out.2.alloc _⟩ ?_
      rintro W4 ⟨R4, XB4, XC4⟩
      obtain ⟨B, hB⟩ : ∃ B, B = w3.heap.size := ⟨_, rfl⟩
      rw [← hB] at R4 XB4
      rw [← hB]
      have hgaB : ga + 1 < B := R4.at_.hg
      have hxga : x < ga := by
        have h1 := R4.at_.ans
        have h2 := R4.lo
        have h3 : x ≠ ga := blk_ne13 XC4 h1 (by decide)
        have := H2.out.2.2
        omega
      clear hB H5 H4 H3
      obtain ⟨g, hg⟩ : ∃ g, g = ga + 1 := ⟨_, rfl⟩
      rw [← hg] at R4 hgaB ⊢
      have hgg : ga < B ∧ x ≠ g ∧ x ≠ ga ∧ x < B := by omega
      clear hg hxga
      have x0 := XB4.cell 0
      have x1 := XB4.cell 1
      have k55 := R4.begin_ HK.out.2.1 (br := 3) (bn := 1) (by show (0 : Int) < 3; omega) (by decide) (by show ab 3 1 0 0 = true; decide)
      have H4 := Lib.hid (And.intro k55 (And.intro XB4 XC4))
      clear k55 XB4 XC4 R4
      go_upto_region 10 with (first
        | (go_at_call 55
           refine H4.out.1.mono ?_
           rintro e W5 ⟨rfl, R5, F5⟩
           have XB5 := H4.out.2.1.fr F5 H4.out.2.1.lt (by omega)
           have XC5 := H4.out.2.2.fr F5 H4.out.2.2.lt (by omega)
           have H5 := Lib.hid (And.intro R5 (And.intro XB5 XC5))
           clear R5 F5 XB5 XC5)
        | fail)
      clear x0 x1
      have eqR : ({ (⟨c, false, 0, 0, 0, 0, 0, [], 0⟩ : Rnd) with br := 3, bn := 1, stage := 1, nr := 0, nn := 0, led := [], begun := wrap64 ((⟨c, false, 0, 0, 0, 0, 0, [], 0⟩ : Rnd).begun + 1) } : Rnd) = hvR c 1 := by
        show (⟨c, false, 3, 1, 1, 0, 0, [], wrap64 ((0 : Int) + 1)⟩ : Rnd) = _
        rw [one_wrap]
        rfl
      have R5 := H5.out.1
      rw [eqR] at R5
      have hBs := H5.out.2.1.lt
      have HI0 := Lib.hid (show ∃ f lv, RS w B g ga n f (hvR c 1) pv lv W5 ∧ Blk W5 B 23 #[.int .i64 3, .int .i64 1] ∧ Blk W5 x 81 (c.cells pv0).toArray ∧ LedOut W5 B W5.heap.size lv (hvR c 1).led ∧ (1 < 3 → f = fun _ => false) from
        ⟨_, _, R5, H5.out.2.1, H5.out.2.2, ⟨B, B, Nat.le_refl _, by omega, ⟨none, 0, [], rfl, Nat.le_refl _, by simp [maxLen], by simp [hvR], ⟨by simp [hvR], fun h => by simp [hvR] at h⟩, rfl, fun i r c h => by simp at h⟩, .inr (by omega)⟩, fun _ => rfl⟩)
      clear R5 eqR H5 H4 hBs
      have hmk := make_bools n (by omega)
      go_wp2_with (fail)
      go_loopw [10] (fun sv wr => ∃ (s : Nat) (si : Int), 1 ≤ s ∧ s ≤ 3 ∧ sv = .int .i64 si ∧ Hid (si = (s : Nat)) ∧ Hid (∃ f lv, RS w B g ga n f (hvR c s) pv lv wr ∧ Blk wr B 23 #[.int .i64 3, .int .i64 1] ∧ Blk wr x 81 (c.cells pv0).toArray ∧ LedOut wr B wr.heap.size lv (hvR c s).led ∧ (s < 3 → f = fun _ => false))) (fun sv _ => 3 - (intOf sv).toNat)
      case atStart => exact ⟨1, 1, Nat.le_refl _, by omega, rfl, Lib.hid rfl, HI0⟩
      case round =>
        obtain ⟨s, si, hs1, hs3, rfl, HSI, HS⟩ := hrel
        by_cases hlt : s < 3
        · have hsle : si ≤ 2 := by have := HSI.out; omega
          have hno200 : no ≤ 200 := by omega
          have bS : Below wr.heap.size wr (wr.alloc (.cells (bls (fun _ => false) n) 4)) := (Below.refl _ _).alloc (Nat.le_refl _) _
          have hI : ∃ q seen f lv, q = 0 ∧ Blk (wr.alloc (.cells (bls (fun _ => false) n) 4)) x 81 (c.cells pv0).toArray ∧ HvIn w B g ga n s 0 no pv lv c wr.heap.size seen f s q (wr.alloc (.cells (bls (fun _ => false) n) 4)) := by
            obtain ⟨f, lv, R, XB, XC, hl, hf⟩ := HS.out
            have hlB := XB.lt
            have hg1 := R.at_.hg
            have hg2 := R.at_.hga
            have h0 := cnt_zero n
            refine ⟨0, fun _ => false, f, lv, rfl, XC.below bS XC.lt, R.below bS, XB.below bS XB.lt, Blk.new wr 4 _, by omega, fun _ => ⟨rfl, hf hlt⟩, fun h => absurd h (by omega), fun j hj => absurd hj (by omega), hl.fr (Fr.of_below bS (fun _ => False)) (Nat.le_refl _) (fun _ h => h.elim), by omega⟩
          go_upto_region 14 with (fail)
          refine wp_letter (fun W => Hid (∃ q seen f lv, q = 0 ∧ Blk W x 81 (c.cells pv0).toArray ∧ HvIn w B g ga n s 0 no pv lv c wr.heap.size seen f s q W)) (Lib.hid hI) ?_
          rintro W7 HI7
          have hxsb : x ≠ wr.heap.size := by
            obtain ⟨f, lv, R, XB, XC, hl, hf⟩ := HS.out
            have := XC.lt
            omega
          obtain ⟨sb, hsb⟩ : ∃ sb, sb = wr.heap.size := ⟨_, rfl⟩
          rw [← hsb] at HI7 hxsb ⊢
          clear hsb bS hI
          go_wp2_with (fail)
          go_loopw [12, 13] (fun nv iv wi => ∃ (q i t : Nat), i ≤ no + n ∧ iv = .int .i64 i ∧ nv = .int .i64 q ∧ q ≤ n ∧ Hid (∃ seen f lv, Blk wi x 81 (c.cells pv0).toArray ∧ HvIn w B g ga n s i no pv lv c sb seen f t q wi)) (fun _ iv _ => no + n - (intOf iv).toNat)
          case atStart =>
            obtain ⟨q, seen, f, lv, rfl, hc1, hi1⟩ := HI7.out
            exact ⟨0, 0, s, Nat.zero_le _, rfl, rfl, Nat.zero_le _, Lib.hid ⟨seen, f, lv, hc1, hi1⟩⟩
          case round =>
            obtain ⟨q, i, t, hi, rfl, rfl, hq, HW⟩ := hrel
            have hws : IntKind.i64.wrap ((no : Int) + n) = (no : Int) + n := by rw [IntKind.wrap_i64]; omega
            by_cases hin : (i : Int) < (no : Int) + n
            · go_upto_if 69 with (fail)
              clear hws
              go_cut [14] (fun v14 wx => wx = wr ∧ ∃ j2 : Nat, v14 = .int .i64 j2 ∧ j2 < n ∧ (i < no ∨ j2 + no = i))
              case first =>
                by_cases hio : (i : Int) < no
                · obtain ⟨z, hz2⟩ : ∃ z, order[i]? = some z := ⟨_, List.getElem?_eq_getElem (by have := HK.out.2.2.2.2.2.2; omega)⟩
                  obtain ⟨ob, oo, hOa, hu1, hu2, hu3⟩ := ints_cell HK.out.2.2.2.2.2.1 hz2
                  subst hOa
                  have hu4 : wr.cell? ⟨ob, oo + i, none⟩ = some (.int .i64 z) := by
                    obtain ⟨seen, f, lv, _, h⟩ := HW.out
                    exact (h.rs.bel.cell (p := ⟨ob, oo + i, none⟩) hu2).trans hu3
                  obtain ⟨j2, hj2, hwj2⟩ := whichN z (n := n) (by omega) (by omega)
                  have hnn : ¬ (n : Int) = 0 := by omega
                  have HZ := Lib.hid hz2
                  clear hz2 hu3
                  go_wp2_with (fail)
                  go_meet
                  exact ⟨rfl, j2, by first | rfl | rw [hwj2], hj2, .inl (by omega)⟩
                · have hws2 : IntKind.i64.wrap ((i : Int) - no) = (i : Int) - no := by rw [IntKind.wrap_i64]; omega
                  go_wp2_with (fail)
                  go_meet
                  exact ⟨rfl, i - no, by congr 1; omega, by omega, .inr (by omega)⟩
              case rest =>
                obtain ⟨rfl, j2, rfl, hj2, hij⟩ := hcut
                have hws3 : IntKind.i64.wrap (2 * (q : Int)) = 2 * (q : Int) := by rw [IntKind.wrap_i64]; omega
                by_cases hmany : 2 * (q : Int) > n
                · go_wp2_with (fail)
                  obtain ⟨seen, f, lv, hxc, h⟩ := HW.out
                  obtain ⟨ht, hf⟩ := h.many (by omega)
                  subst ht
                  exact ⟨⟨s + 1, _, by omega, by omega, rfl, Lib.hid (by have := HSI.out; unfold wrap64; omega), Lib.hid ⟨f, lv, h.rs, h.b, hxc, h.led.new (Nat.le_refl _), fun hs3 => hf (by omega)⟩⟩, by have := HSI.out; simp only [intOf]; unfold wrap64; omega⟩
                · obtain ⟨seen, f, lv, hxc, h⟩ := HW.out
                  obtain ⟨ht, hf⟩ := h.few (by omega)
                  subst ht hf
                  have k56 : Calls Tryd.prog 56 #[.pointer (some ⟨g, 0, none⟩)] wc fun e w' => e = .returned (.int .i64 (t : Nat)) ∧ Below wc.heap.size wc w' := h.rs.stage
                  have hts : (t : Int) = si := HSI.out.symm
                  have hcj : wc.cell? ⟨sb, j2, none⟩ = some (.bool (f j2)) := by rw [h.row.cell j2, bls_get hj2]
                  have H7 := Lib.hid (And.intro hxc (And.intro h k56))
                  clear hxc h k56
                  go_upto_region 26 with (first
                    | (go_at_call 56
                       refine H7.out.2.2.mono ?_
                       rintro e W8 ⟨rfl, b8⟩
                       have hcj8 : W8.cell? ⟨sb, j2, none⟩ = some (.bool (f j2)) := by rw [(H7.out.2.1.row.below b8 H7.out.2.1.row.lt).cell j2, bls_get hj2]
                       have H8 := Lib.hid (And.intro (H7.out.1.below b8 H7.out.1.lt) (And.intro (H7.out.2.1.below b8) b8))
                       clear b8)
                    | fail)
                  have HTS := Lib.hid hts
                  clear hcj hts
                  obtain rfl | rfl : t = 1 ∨ t = 2 := by omega
                  · obtain rfl : si = 1 := HTS.out.symm
                    cases hfj : f j2 with
                    | true =>
                      rw [hfj] at hcj8
                      have xb0 : W8.cell? ⟨B, 0, none⟩ = some (.int .i64 3) := H8.out.2.1.b.cell 0
                      have xb1 : W8.cell? ⟨B, 1, none⟩ = some (.int .i64 1) := H8.out.2.1.b.cell 1
                      have kk := H8.out.2.1.rs.promise_no HK.out.2.1 (from_ := j2) (br := 3) (bn := 1) (ar := 0) (an := 0) (LedAt.nil13 _) (Nat.zero_le _) (.inr (Nat.zero_le _)) (fun hh => by obtain ⟨_, _, j3, e3, _, hf3⟩ := hh; obtain rfl : j3 = j2 := (by omega); rw [hfj] at hf3; cases hf3)
                      have HC := Lib.hid (And.intro kk hfj)
                      clear kk hfj
                      go_wp2_with (first
                        | (go_at_call 58
                           refine HC.out.1.mono ?_
                           rintro e W9 ⟨rfl, b9⟩
                           have hcj9 : W9.cell? ⟨sb, j2, none⟩ = some (.bool true) := (b9.cell (p := ⟨sb, j2, none⟩) H8.out.2.1.row.lt).trans hcj8
                           have H9 := Lib.hid b9
                           clear b9)
                        | fail)
                      go_roundw
                      case rel => exact ⟨q, i + 1, 1, by omega, by go_num, rfl, hq, Lib.hid ⟨f, f, lv, H8.out.1.below H9.out H8.out.1.lt, (H8.out.2.1.below H9.out).again hij HC.out.2⟩⟩
                      case measure => simp [intOf]; omega
                    | false =>
                      rw [hfj] at hcj8
                      have xb0 : W8.cell? ⟨B, 0, none⟩ = some (.int .i64 3) := H8.out.2.1.b.cell 0
                      have xb1 : W8.cell? ⟨B, 1, none⟩ = some (.int .i64 1) := H8.out.2.1.b.cell 1
                      have kk := H8.out.2.1.rs.promise_yes HK.out.2.1 (j := j2) (br := 3) (bn := 1) (ar := 0) (an := 0) (LedAt.nil13 _) (Nat.zero_le _) (.inr (Nat.zero_le _)) (by rfl) ⟨rfl, rfl⟩ hj2 hfj
                      have HC := Lib.hid (And.intro kk hfj)
                      clear kk hfj
                      go_wp2_with (first
                        | (go_at_call 58
                           refine HC.out.1.mono ?_
                           rintro e W9 ⟨rfl, lv9, R9, F9, hl9⟩
                           have hrw9 := H8.out.2.1.row.fr F9 H8.out.2.1.row.lt (by have := H8.out.2.1.ord; omega)
                           have hcj9 : W9.cell? ⟨sb, j2, none⟩ = some (.bool false) := by rw [hrw9.cell j2, bls_get hj2, HC.out.2]
                           have hfz9 := hrw9.frozen j2
                           have H9 := Lib.hid (And.intro R9 (And.intro F9 hl9))
                           clear R9 F9 hl9 hrw9)
                        | fail)
                      go_roundw
                      case rel =>
                        have ht := hvR_told (n := n) (j := j2) (seen := f) c HN.out.1
                        have R9 := H9.out.1
                        have hl9 := H9.out.2.2
                        rw [ht.1, ht.2] at R9
                        rw [ht.1] at hl9
                        have hx9 := H8.out.1.fr H9.out.2.1 H8.out.1.lt (by omega)
                        have hh := H8.out.2.1.count hj2 HC.out.2 hij R9 H9.out.2.1 hl9 (fun e => by rw [if_pos e, if_pos e]; exact ⟨rfl, rfl⟩) (fun e => by rw [if_neg e, if_neg e]; exact ⟨rfl, fun _ => rfl⟩)
                        exact ⟨q + 1, i + 1, _, by omega, by go_num, by go_num, by have := H8.out.2.1.cq; have := cnt_upd hj2 HC.out.2; have := cnt_le n (upd f j2 true); omega, Lib.hid ⟨_, _, _, hx9.far (p := ⟨sb, j2, none⟩) hxsb _, hh⟩⟩
                      case measure => simp [intOf]; omega
                  · obtain rfl : si = 2 := HTS.out.symm
                    cases hfj : f j2 with
                    | true =>
                      rw [hfj] at hcj8
                      have xb0 : W8.cell? ⟨B, 0, none⟩ = some (.int .i64 3) := H8.out.2.1.b.cell 0
                      have xb1 : W8.cell? ⟨B, 1, none⟩ = some (.int .i64 1) := H8.out.2.1.b.cell 1
                      have kk := H8.out.2.1.rs.accepted_no (from_ := j2) (br := 3) (bn := 1) (fun hh => by obtain ⟨_, _, j3, e3, _, hf3⟩ := hh; obtain rfl : j3 = j2 := (by omega); rw [hfj] at hf3; cases hf3)
                      have HC := Lib.hid (And.intro kk hfj)
                      clear kk hfj
                      go_wp2_with (first
                        | (go_at_call 62
                           refine HC.out.1.mono ?_
                           rintro e W9 ⟨rfl, b9⟩
                           have hcj9 : W9.cell? ⟨sb, j2, none⟩ = some (.bool true) := (b9.cell (p := ⟨sb, j2, none⟩) H8.out.2.1.row.lt).trans hcj8
                           have H9 := Lib.hid b9
                           clear b9)
                        | fail)
                      go_roundw
                      case rel => exact ⟨q, i + 1, 2, by omega, by go_num, rfl, hq, Lib.hid ⟨f, f, lv, H8.out.1.below H9.out H8.out.1.lt, (H8.out.2.1.below H9.out).again hij HC.out.2⟩⟩
                      case measure => simp [intOf]; omega
                    | false =>
                      rw [hfj] at hcj8
                      have xb0 : W8.cell? ⟨B, 0, none⟩ = some (.int .i64 3) := H8.out.2.1.b.cell 0
                      have xb1 : W8.cell? ⟨B, 1, none⟩ = some (.int .i64 1) := H8.out.2.1.b.cell 1
                      have kk := H8.out.2.1.rs.accepted_yes (j := j2) (br := 3) (bn := 1) (by rfl) ⟨rfl, rfl⟩ hj2 hfj
                      have HC := Lib.hid (And.intro kk hfj)
                      clear kk hfj
                      go_wp2_with (first
                        | (go_at_call 62
                           refine HC.out.1.mono ?_
                           rintro e W9 ⟨rfl, R9, F9⟩
                           have hrw9 := H8.out.2.1.row.fr F9 H8.out.2.1.row.lt (by have := H8.out.2.1.ord; omega)
                           have hcj9 : W9.cell? ⟨sb, j2, none⟩ = some (.bool false) := by rw [hrw9.cell j2, bls_get hj2, HC.out.2]
                           have hfz9 := hrw9.frozen j2
                           have H9 := Lib.hid (And.intro R9 F9)
                           clear R9 F9 hrw9)
                        | fail)
                      go_roundw
                      case rel =>
                        have ht := hvR_acc (n := n) (j := j2) (seen := f) c HN.out.1
                        have R9 := H9.out.1
                        rw [ht] at R9
                        have hx9 := H8.out.1.fr H9.out.2 H8.out.1.lt (by omega)
                        have hh := H8.out.2.1.count hj2 HC.out.2 hij R9 H9.out.2 (.inl ⟨rfl, by split <;> rfl⟩) (fun e => by rw [if_pos e]; exact ⟨rfl, rfl⟩) (fun e => by rw [if_neg e]; exact ⟨rfl, fun h => by omega⟩)
                        exact ⟨q + 1, i + 1, _, by omega, by go_num, by go_num, by have := H8.out.2.1.cq; have := cnt_upd hj2 HC.out.2; have := cnt_le n (upd f j2 true); omega, Lib.hid ⟨_, _, _, hx9.far (p := ⟨sb, j2, none⟩) hxsb _, hh⟩⟩
                      case measure => simp [intOf]; omega
            · have hnot : ¬ (i : Int) < (no : Int) + n := hin
              go_wp2_with (fail)
              obtain ⟨seen, f, lv, hxc, h⟩ := HW.out
              have hfull := h.full HN.out.1 (by omega)
              obtain ⟨ht, hf⟩ := h.many hfull
              subst ht
              exact ⟨⟨s + 1, _, by omega, by omega, rfl, Lib.hid (by have := HSI.out; unfold wrap64; omega), Lib.hid ⟨f, lv, h.rs, h.b, hxc, h.led.new (Nat.le_refl _), fun hs3 => hf (by omega)⟩⟩, by have := HSI.out; simp only [intOf]; unfold wrap64; omega⟩
        · obtain rfl : s = 3 := by omega
          obtain ⟨f, lv, R, XB, XC, hl, hf⟩ := HS.out
          have hb := R.bel
          have k60 : Calls Tryd.prog 60 #[.pointer (some ⟨g, 0, none⟩)] wr fun e w' => ∃ v, e = .returned v ∧ OwnLed w' wr.heap.size w'.heap.size v [c] ∧ Below wr.heap.size wr w' := R.ledger
          have hsi : ¬ si ≤ 2 := by have := HSI.out; omega
          have H1 := Lib.hid (And.intro k60 (And.intro R (And.intro XC hb)))
          clear k60 R XB XC hl hf hb HS
          go_upto_region 35 with (first
            | (go_at_call 60
               refine H1.out.1.mono ?_
               rintro e w3 ⟨v3, rfl, o3, b3⟩
               obtain ⟨A3, c3, hv3, _⟩ := o3.at_.form
               subst hv3
               have H3 := Lib.hid (And.intro o3 b3)
               clear o3 b3)
            | fail)
          obtain ⟨b1, o1, p1, hA3, _, hb1, hr1, hp1⟩ := H3.out.1.at_.range (i := 0) (c := c) rfl
          subst hA3
          have R3 := H1.out.2.1.below H3.out.2
          have XC3 := H1.out.2.2.1.below H3.out.2 H1.out.2.2.1.lt
          have hw3 := H1.out.2.2.2.trans (H3.out.2.mono H1.out.2.2.2.size)
          have hr1' : w3.rangeAt b1 o1 (c.cells p1) := by simpa using hr1
          have kr1 : ∀ w', (∃ p : Regrown, w' = Go.Sort.grow (redrawn w3 p.d) p.os) → w'.rangeAt b1 o1 (c.cells p1) := fun w' ⟨p, hp⟩ => by
            subst hp; exact rangeAt_fr hr1' (Fr.of_below (below_regrown w3 p.d p.os) (fun _ => False)) (by omega) (fun h => h)
          have kr2 : ∀ w', (∃ p : Regrown, w' = Go.Sort.grow (redrawn w3 p.d) p.os) → w'.rangeAt x 0 (c.cells pv0) := fun w' ⟨p, hp⟩ => by
            subst hp; exact (XC3.below (below_regrown w3 p.d p.os) XC3.lt).range
          have k45 : ∀ dd os, Calls Tryd.prog 45 #[.agg (c.cells p1).toArray, .agg (c.cells pv0).toArray] (Go.Sort.grow (redrawn w3 dd) os) (YesNo true (Go.Sort.grow (redrawn w3 dd) os)) := fun dd os => by
            have hB := below_regrown w3 dd os
            have hB2 := hw3.trans (hB.mono hw3.size)
            have := sameCommand_any (Go.Sort.grow (redrawn w3 dd) os) _ w3.heap.size 0 w.heap.size p1 pv0 c c (hp1.fr (Fr.of_below hB (fun _ => False)) (Nat.le_refl _) (fun _ _ _ h => h)) (HK.out.2.2.2.2.1.fr (Fr.of_below hB2 (fun _ => False)) (Nat.le_refl _) (fun _ _ _ h => h)) hB.size hB2.size
            rwa [show tf (c = c) = true from by simp [tf]] at this
          have k56 : ∀ dd os, Calls Tryd.prog 56 #[.pointer (some ⟨g, 0, none⟩)] (Go.Sort.grow (redrawn w3 dd) os) fun e w' => e = .returned (.int .i64 3) ∧ Below (Go.Sort.grow (redrawn w3 dd) os).heap.size (Go.Sort.grow (redrawn w3 dd) os) w' := fun dd os => (R3.below (below_regrown w3 dd os)).stage
          have k61 : ∀ dd os, Calls Tryd.prog 61 #[.pointer (some ⟨g, 0, none⟩)] (Go.Sort.grow (redrawn w3 dd) os) fun e w' => e = .returned (.int .i64 1) ∧ Below (Go.Sort.grow (redrawn w3 dd) os).heap.size (Go.Sort.grow (redrawn w3 dd) os) w' := fun dd os => by
            have := (R3.below (below_regrown w3 dd os)).place HK.out.2.1
            rwa [(hvR_end c).2.2] at this
          have HW3 := Lib.hid hw3
          clear hw3 hr1 hr1' hp1 R3 XC3 H1 H3
          try simp only [List.cons_append, List.nil_append, List.append_eq]
          refine wp_region_quiet_cheap (by kernel_rfl) (by kernel_rfl) (by kernel_rfl) (by kernel_rfl) ?_
          repeat (first
            | (go_big_quiet_want; (with_reducible refine law_quiet_load_g 81 (.tmp 131) b1 o1 (c.cells p1) ?_ kr1 Tryd.underlying81 ?_ ?_ ?_); rfl; rfl; exact cmd_info; go_big_quiet_on; (conv => arg 6; simp [go_sem]))
            | (go_big_quiet_want; (with_reducible refine law_quiet_load_g 81 (.tmp 4) x 0 (c.cells pv0) ?_ kr2 Tryd.underlying81 ?_ ?_ ?_); rfl; rfl; exact cmd_info; go_big_quiet_on; (conv => arg 6; simp [go_sem]))
            | go_big_quiet_step (first | (with_reducible exact Calls.regrown_of (k56 _ _)) | (with_reducible exact Calls.regrown_of (k45 _ _)) | (with_reducible exact Calls.regrown_of (k61 _ _))))
          refine wpQuiet_nil ?_
          intro _ hw'
          obtain ⟨⟨dq, osq⟩, hw''⟩ := hw'
          subst hw''
          have hfin := HW3.out.trans ((below_regrown w3 dq osq).mono HW3.out.size)
          have HF := Lib.hid hfin
          clear hfin
          go_wp2_with (fail)
          go_ret
          exact ⟨rfl, HF.out⟩
end Go.Proofs.YtnlncfjibbdimaaDoor
