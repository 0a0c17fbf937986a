/-
  A round of the call's own: its calls, each as one contract in one form.
-/
import Derived.Test.YtnlncfjibbdimaaDoorProm13
import Derived.Test.YtnlncfjibbdimaaDoorNew13
import Derived.Test.YtnlncfjibbdimaaDoorAcc13
import Derived.Test.YtnlncfjibbdimaaDoorRnd13b
namespace Go.Proofs.YtnlncfjibbdimaaDoor
open Go.RowKit
set_option linter.unusedSimpArgs false
set_option linter.unusedVariables false

/-- The errors that a round's calls answer. -/
def E13 (w : World) (A : Nat → Addr) : Prop := ∀ q, q = 0 ∨ q = 1 ∨ q = 3 ∨ q = 4 ∨ q = 10 → w.cell? ⟨q, 0, none⟩ = some (errv (A q))
theorem E13.below {w w' : World} {A : Nat → Addr} (h : E13 w A) (b : Below w.heap.size w w') : E13 w' A := fun q hq => (b.cell (p := ⟨q, 0, none⟩) (World.block_lt_of_cell? w _ (h q hq))).trans (h q hq)

/-- A round that the call made since world w. -/
structure RS (w : World) (B g ga n : Nat) (f : Nat → Bool) (r : Rnd) (pv lv : Value) (W : World) : Prop where
  at_ : RndAt W B g ga n f r pv lv
  bel : Below w.heap.size w W
  lo : w.heap.size ≤ g ∧ w.heap.size ≤ ga
  pos : 0 < n

section
variable {w W W' : World} {B g ga n : Nat} {f : Nat → Bool} {r : Rnd} {pv lv : Value} {A : Nat → Addr}
theorem RS.below (h : RS w B g ga n f r pv lv W) (b : Below W.heap.size W W') : RS w B g ga n f r pv lv W' := ⟨h.at_.below b (Nat.le_refl _), h.bel.trans (b.mono h.bel.size), h.lo, h.pos⟩
theorem RS.step {f' : Nat → Bool} {r' : Rnd} {lv' : Value} (h : RS w B g ga n f r pv lv W) (hR : RndAt W' B g ga n f' r' pv lv') (hF : Fr W.heap.size (fun k => k = g ∨ k = ga) W W') : RS w B g ga n f' r' pv lv' W' :=
  ⟨hR, h.bel.trans ((hF.mono h.bel.size (S' := fun _ => False) (fun k hk hs => by have := h.lo; omega)).below (fun _ _ h => h)), h.lo, h.pos⟩
theorem RS.e (h : RS w B g ga n f r pv lv W) (hE : E13 w A) {q : Nat} (hq : q = 0 ∨ q = 1 ∨ q = 3 ∨ q = 4 ∨ q = 10) : W.cell? ⟨q, 0, none⟩ = some (errv (A q)) := (hE.below h.bel) q hq

theorem RS.begin_ (h : RS w B g ga n f r pv lv W) (hE : E13 w A) {br bn : Int} (hs : r.stage < 3) (hl : lg br bn = true) (ha : ab br bn r.br r.bn = true) :
    Calls Tryd.prog 55 #[.pointer (some ⟨g, 0, none⟩), .agg #[.int .i64 br, .int .i64 bn]] W fun e w' => e = .returned .nilIface ∧
      RS w B g ga n (fun _ => false) { r with br := br, bn := bn, stage := 1, nr := 0, nn := 0, led := [], begun := wrap64 (r.begun + 1) } pv (.slice none 0 0) w' ∧ Fr W.heap.size (fun k => k = g ∨ k = ga) W w' :=
  (begin_good W B g ga n f r pv lv h.at_ br bn (A 3) (h.e hE (by simp)) hs hl ha h.pos).mono fun e w' ⟨h1, h2, h3⟩ => ⟨h1, h.step h2 h3, h3⟩
theorem RS.promise_no (h : RS w B g ga n f r pv lv W) (hE : E13 w A) {from_ br bn ar an : Int} {lo hi : Nat} {lva : Value} {l : List Cmd} (hL : LedAt W lo hi lva l) (hhi : hi ≤ W.heap.size) (hlo : ga < lo ∨ hi ≤ ga) (hf : ¬ fitsR r n f 1 from_ br bn) :
    Calls Tryd.prog 58 #[.pointer (some ⟨g, 0, none⟩), .int .i64 from_, .agg #[.int .i64 br, .int .i64 bn], .agg #[.int .i64 ar, .int .i64 an], lva] W fun e w' => e = .returned (.bool false) ∧ Below W.heap.size W w' :=
  (promise_any W B g ga n f r pv lv h.at_ h.pos from_ br bn ar an lo hi lva l hL hhi hlo (A 4) (h.e hE (by simp))).mono fun e w' hp => by
    rcases hp with ⟨_, h1, h2⟩ | ⟨h1, h2, j, h3, h4, h5, _⟩
    · exact ⟨h1, h2⟩
    · exact absurd ⟨h1, h2, j, h3, h4, h5⟩ hf
theorem RS.promise_yes (h : RS w B g ga n f r pv lv W) (hE : E13 w A) {j : Nat} {br bn ar an : Int} {lo hi : Nat} {lva : Value} {l : List Cmd} (hL : LedAt W lo hi lva l) (hhi : hi ≤ W.heap.size) (hlo : ga < lo ∨ hi ≤ ga) (h1 : r.stage = 1) (h2 : br = r.br ∧ bn = r.bn) (hj : j < n) (hf : f j = false) :
    Calls Tryd.prog 58 #[.pointer (some ⟨g, 0, none⟩), .int .i64 j, .agg #[.int .i64 br, .int .i64 bn], .agg #[.int .i64 ar, .int .i64 an], lva] W fun e w' => e = .returned (.bool true) ∧
      ∃ lv', RS w B g ga n (promF n f j) (r.promised n f j ar an l) pv lv' w' ∧ Fr W.heap.size (fun k => k = g ∨ k = ga) W w' ∧ ((lv' = lv ∧ (r.promised n f j ar an l).led = r.led) ∨ OwnLed w' W.heap.size w'.heap.size lv' (r.promised n f j ar an l).led) :=
  (promise_any W B g ga n f r pv lv h.at_ h.pos j br bn ar an lo hi lva l hL hhi hlo (A 4) (h.e hE (by simp))).mono fun e w' hp => by
    rcases hp with ⟨hno, _⟩ | ⟨_, _, j', e1, _, _, h4, lv', h5, h6, h7⟩
    · exact absurd ⟨h1, h2, j, rfl, hj, hf⟩ hno
    · obtain rfl : j = j' := by omega
      exact ⟨h4, lv', h.step h5 h6, h6, h7⟩
theorem RS.accepted_no (h : RS w B g ga n f r pv lv W) {from_ br bn : Int} (hf : ¬ fitsR r n f 2 from_ br bn) :
    Calls Tryd.prog 62 #[.pointer (some ⟨g, 0, none⟩), .int .i64 from_, .agg #[.int .i64 br, .int .i64 bn]] W fun e w' => e = .returned (.bool false) ∧ Below W.heap.size W w' :=
  (accepted13_any W B g ga n f r pv lv h.at_ from_ br bn).mono fun e w' hp => by
    rcases hp with ⟨_, h1, h2⟩ | ⟨h1, h2, j, h3, h4, h5, _⟩
    · exact ⟨h1, h2⟩
    · exact absurd ⟨h1, h2, j, h3, h4, h5⟩ hf
theorem RS.accepted_yes (h : RS w B g ga n f r pv lv W) {j : Nat} {br bn : Int} (h1 : r.stage = 2) (h2 : br = r.br ∧ bn = r.bn) (hj : j < n) (hf : f j = false) :
    Calls Tryd.prog 62 #[.pointer (some ⟨g, 0, none⟩), .int .i64 j, .agg #[.int .i64 br, .int .i64 bn]] W fun e w' => e = .returned (.bool true) ∧
      RS w B g ga n (upd f j true) { r with stage := if half n ≤ (cnt n (upd f j true) : Nat) then 3 else 2 } pv lv w' ∧ Fr W.heap.size (fun k => k = g ∨ k = ga) W w' :=
  (accepted13_any W B g ga n f r pv lv h.at_ j br bn).mono fun e w' hp => by
    rcases hp with ⟨hno, _⟩ | ⟨_, _, j', e1, _, _, h4, h5, h6⟩
    · exact absurd ⟨h1, h2, j, rfl, hj, hf⟩ hno
    · obtain rfl : j = j' := by omega
      exact ⟨h4, h.step h5 h6, h6⟩
theorem RS.stage (h : RS w B g ga n f r pv lv W) : Calls Tryd.prog 56 #[.pointer (some ⟨g, 0, none⟩)] W fun e w' => e = .returned (.int .i64 r.stage) ∧ Below W.heap.size W w' := stage_any W B g ga n f r pv lv h.at_
theorem RS.ledger (h : RS w B g ga n f r pv lv W) : Calls Tryd.prog 60 #[.pointer (some ⟨g, 0, none⟩)] W fun e w' => ∃ v, e = .returned v ∧ OwnLed w' W.heap.size w'.heap.size v r.tells ∧ Below W.heap.size W w' := rledger_any W B g ga n f r pv lv h.at_
theorem RS.place (h : RS w B g ga n f r pv lv W) (hE : E13 w A) : Calls Tryd.prog 61 #[.pointer (some ⟨g, 0, none⟩)] W fun e w' => e = .returned (.int .i64 r.place) ∧ Below W.heap.size W w' := rplace_any W B g ga n f r pv lv h.at_ (A 10) (h.e hE (by simp))
/-- A new round. -/
theorem RS.of_new {n : Nat} {c : Cmd} {reads : Bool} {e : Ending} {w0 : World} (hb : Below w0.heap.size w0 w) (hn : 0 < n) (h : New13Post n c reads w e W) :
    ∃ ga pv', e = .returned (.tuple #[.pointer (some ⟨ga + 1, 0, none⟩), .nilIface]) ∧ RS w0 W.heap.size (ga + 1) ga n (fun _ => false) ⟨c, reads, 0, 0, 0, 0, 0, [], 0⟩ pv' (.slice none 0 0) W ∧ Below w.heap.size w W := by
  obtain ⟨ga, pv', rfl, h1, h2, h3, h4, h5⟩ := h
  have := hb.size
  exact ⟨ga, pv', rfl, ⟨h3, hb.trans (h5.mono hb.size), ⟨by omega, by omega⟩, hn⟩, h5⟩
end
end Go.Proofs.YtnlncfjibbdimaaDoor
