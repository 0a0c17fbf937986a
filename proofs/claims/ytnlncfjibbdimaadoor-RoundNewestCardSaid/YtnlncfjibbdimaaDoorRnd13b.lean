/-
  A round's Ledger and Place.
-/
import Derived.Test.YtnlncfjibbdimaaDoorRnd13
import Derived.Test.YtnlncfjibbdimaaDoorCopy13
namespace Go.Proofs.YtnlncfjibbdimaaDoor
open Go.RowKit
set_option linter.unusedSimpArgs false
set_option linter.unusedVariables false

/-- The ledger that is to be accepted. -/
def Rnd.tells (r : Rnd) : List Cmd := if toldB r.stage = true then r.led else []
def Rnd.place (r : Rnd) : Int := if toldB r.stage = true then (if r.reads = true then (r.led.length : Nat) else idxN r.led r.cmd.idn r.cmd.idb r.cmd.ids + 1) else 0

set_option maxRecDepth 100000 in
set_option maxHeartbeats 800000 in
theorem rledger_any (w : World) (B g ga n : Nat) (f : Nat → Bool) (r : Rnd) (pv lv : Value) (h : RndAt w B g ga n f r pv lv) : Calls Tryd.prog 60 #[.pointer (some ⟨g, 0, none⟩)] w fun e w' =>
    ∃ v, e = .returned v ∧ OwnLed w' w.heap.size w'.heap.size v r.tells ∧ Below w.heap.size w w' := by
  have k121 := told_any w B g ga n f r pv lv h
  have HH := Lib.hid h
  unfold Rnd.tells
  cases ht : toldB r.stage with
  | false =>
    rw [ht] at k121
    have HK := Lib.hid k121
    clear k121 h ht
    go_enter Tryd.func60, Tryd.ntmps60
    go_wp2_with (first | (go_at_call 121; refine HK.out.mono ?_; rintro e w1 ⟨rfl, b1⟩; have H1 := Lib.hid b1; clear b1) | fail)
    go_ret
    exact ⟨_, rfl, OwnLed.nil_ _ _ _, H1.out⟩
  | true =>
    rw [ht] at k121
    have HK := Lib.hid k121
    have k118 : ∀ W, Below w.heap.size w W → Calls Tryd.prog 118 #[lv] W (CopyPost W r.led) ∧ W.cell? ⟨g, 25, none⟩ = some lv := fun W b => by
      have h' := h.below b (Nat.le_refl _)
      exact ⟨copied118_any W B W.heap.size lv r.led h'.led (Nat.le_refl _), h'.row.cell 25⟩
    have HK2 := Lib.hid k118
    clear k121 h ht k118
    go_enter Tryd.func60, Tryd.ntmps60
    go_wp2_with (first
      | (go_at_call 121; refine HK.out.mono ?_; rintro e w1 ⟨rfl, b1⟩; have c1 := (HK2.out w1 b1).2; have H1 := Lib.hid b1; clear b1)
      | (go_at_call 118; refine (HK2.out w1 H1.out).1.mono ?_; rintro e w2 ⟨v2, rfl, o2, b2⟩; obtain ⟨A2, c2, hv2, _⟩ := o2.at_.form; have H2 := Lib.hid (And.intro o2 (And.intro b2 hv2)); clear o2 b2 hv2)
      | fail)
    have hv2 := H2.out.2.2
    have o2 := H2.out.1
    have b2 := H2.out.2.1
    subst hv2
    go_ret
    exact ⟨_, rfl, o2.wider H1.out.size (Nat.le_refl _), H1.out.trans (b2.mono H1.out.size)⟩

set_option maxRecDepth 100000 in
set_option maxHeartbeats 1600000 in
theorem rplace_any (w : World) (B g ga n : Nat) (f : Nat → Bool) (r : Rnd) (pv lv : Value) (h : RndAt w B g ga n f r pv lv) (a10 : Addr) (h10 : w.cell? ⟨10, 0, none⟩ = some (errv a10)) : Calls Tryd.prog 61 #[.pointer (some ⟨g, 0, none⟩)] w fun e w' =>
    e = .returned (.int .i64 r.place) ∧ Below w.heap.size w w' := by
  have k121 := told_any w B g ga n f r pv lv h
  have h010 := World.block_lt_of_cell? w _ h10
  obtain ⟨A, cap, hlv, hl1, hl2, hl3⟩ := h.led.form
  obtain ⟨nl, hnl⟩ : ∃ nl, nl = r.led.length := ⟨_, rfl⟩
  rw [← hnl] at hlv
  subst hlv
  have kall : ∀ W, Below w.heap.size w W → Calls Tryd.prog 122 #[.slice A nl cap, .agg #[.int .i64 r.cmd.idn, .int .i64 r.cmd.idb, .int .i64 r.cmd.ids]] W (PlacePost r.led r.cmd.idn r.cmd.idb r.cmd.ids a10 W) ∧
      W.cell? ⟨g, 25, none⟩ = some (.slice A nl cap) ∧ W.cell? ⟨g, 19, none⟩ = some (.bool r.reads) ∧ W.cell? ⟨g, 2, none⟩ = some (.int .i64 r.cmd.idn) ∧ W.cell? ⟨g, 3, none⟩ = some (.int .i64 r.cmd.idb) ∧ W.cell? ⟨g, 4, none⟩ = some (.int .i64 r.cmd.ids) := fun W b => by
    have h' := h.below b (Nat.le_refl _)
    exact ⟨place_any W B W.heap.size _ r.led h'.led (Nat.le_refl _) _ _ _ a10 ((b.cell h010).trans h10), h'.row.cell 25, h'.row.cell 19, h'.row.cell 2, h'.row.cell 3, h'.row.cell 4⟩
  have HA := Lib.hid kall
  have hcs := idxN_cases r.led r.cmd.idn r.cmd.idb r.cmd.ids
  have HL := Lib.hid (And.intro hnl hcs)
  unfold Rnd.place
  rw [← hnl]
  have hnl63 : nl ≤ 9223372036854775807 := by simp only [maxLen] at hl2; omega
  clear kall hl1 hl2 hl3 h h10 h010 hnl hcs
  cases ht : toldB r.stage with
  | false =>
    rw [ht] at k121
    have HK := Lib.hid k121
    clear k121 ht
    go_enter Tryd.func61, Tryd.ntmps61
    go_wp2_with (first | (go_at_call 121; refine HK.out.mono ?_; rintro e w1 ⟨rfl, b1⟩; have H1 := Lib.hid b1; clear b1) | fail)
    go_ret
    exact ⟨by simp, H1.out⟩
  | true =>
    rw [ht] at k121
    have HK := Lib.hid k121
    clear k121 ht
    cases hr : r.reads with
    | true =>
      rw [hr] at HA
      clear hr
      go_enter Tryd.func61, Tryd.ntmps61
      go_wp2_with (first | (go_at_call 121; refine HK.out.mono ?_; rintro e w1 ⟨rfl, b1⟩; have c1 := (HA.out w1 b1).2.1; have c2 := (HA.out w1 b1).2.2.1; have H1 := Lib.hid b1; clear b1) | fail)
      go_ret
      exact ⟨by simp, H1.out⟩
    | false =>
      rw [hr] at HA
      clear hr
      rcases HL.out.2 with hi | ⟨j, hi, hj⟩
      · have k122 : ∀ W, Below w.heap.size w W → Calls Tryd.prog 122 #[.slice A nl cap, .agg #[.int .i64 r.cmd.idn, .int .i64 r.cmd.idb, .int .i64 r.cmd.ids]] W fun e w' => e = .returned (.tuple #[.int .i64 0, errv a10]) ∧ Below W.heap.size W w' := fun W b => by
          refine (HA.out W b).1.mono ?_
          rintro e w' ⟨h1, h2⟩
          rw [hi] at h1
          exact ⟨by rw [h1]; simp, h2⟩
        have HK2 := Lib.hid k122
        rw [hi]
        clear k122 hi
        go_enter Tryd.func61, Tryd.ntmps61
        go_upto_region 5 with (first | (go_at_call 121; refine HK.out.mono ?_; rintro e w1 ⟨rfl, b1⟩; have c1 := (HA.out w1 b1).2.1; have c2 := (HA.out w1 b1).2.2.1; have d2 := (HA.out w1 b1).2.2.2.1; have d3 := (HA.out w1 b1).2.2.2.2.1; have d4 := (HA.out w1 b1).2.2.2.2.2; have H1 := Lib.hid b1; clear b1) | fail)
        go_region_held3 (fun w' => w'.cell? ⟨g, 25, none⟩ = some (.slice A nl cap) ∧ w'.cell? ⟨g, 2, none⟩ = some (.int .i64 r.cmd.idn) ∧ w'.cell? ⟨g, 3, none⟩ = some (.int .i64 r.cmd.idb) ∧ w'.cell? ⟨g, 4, none⟩ = some (.int .i64 r.cmd.ids)) (go_keep)
          (first | (go_at_call 122; refine (HK2.out _ H1.out.drew).mono ?_; rintro e w2 ⟨rfl, b2⟩; have e1 := (HA.out w2 (H1.out.drew.trans (b2.mono H1.out.drew.size))).2.1; have e2 := (HA.out w2 (H1.out.drew.trans (b2.mono H1.out.drew.size))).2.2.2.1; have e3 := (HA.out w2 (H1.out.drew.trans (b2.mono H1.out.drew.size))).2.2.2.2.1; have e4 := (HA.out w2 (H1.out.drew.trans (b2.mono H1.out.drew.size))).2.2.2.2.2; have H2 := Lib.hid b2; clear b2))
        go_wp2_with (fail)
        go_ret
        exact ⟨by simp, H1.out.drew.trans (H2.out.mono H1.out.drew.size)⟩
      · have k122 : ∀ W, Below w.heap.size w W → Calls Tryd.prog 122 #[.slice A nl cap, .agg #[.int .i64 r.cmd.idn, .int .i64 r.cmd.idb, .int .i64 r.cmd.ids]] W fun e w' => e = .returned (.tuple #[.int .i64 ((j : Int) + 1), .nilIface]) ∧ Below W.heap.size W w' := fun W b => by
          refine (HA.out W b).1.mono ?_
          rintro e w' ⟨h1, h2⟩
          rw [hi, if_neg (by omega)] at h1
          exact ⟨h1, h2⟩
        have HK2 := Lib.hid k122
        rw [hi]
        clear k122 hi
        go_enter Tryd.func61, Tryd.ntmps61
        go_upto_region 5 with (first | (go_at_call 121; refine HK.out.mono ?_; rintro e w1 ⟨rfl, b1⟩; have c1 := (HA.out w1 b1).2.1; have c2 := (HA.out w1 b1).2.2.1; have d2 := (HA.out w1 b1).2.2.2.1; have d3 := (HA.out w1 b1).2.2.2.2.1; have d4 := (HA.out w1 b1).2.2.2.2.2; have H1 := Lib.hid b1; clear b1) | fail)
        go_region_held3 (fun w' => w'.cell? ⟨g, 25, none⟩ = some (.slice A nl cap) ∧ w'.cell? ⟨g, 2, none⟩ = some (.int .i64 r.cmd.idn) ∧ w'.cell? ⟨g, 3, none⟩ = some (.int .i64 r.cmd.idb) ∧ w'.cell? ⟨g, 4, none⟩ = some (.int .i64 r.cmd.ids)) (go_keep)
          (first | (go_at_call 122; refine (HK2.out _ H1.out.drew).mono ?_; rintro e w2 ⟨rfl, b2⟩; have e1 := (HA.out w2 (H1.out.drew.trans (b2.mono H1.out.drew.size))).2.1; have e2 := (HA.out w2 (H1.out.drew.trans (b2.mono H1.out.drew.size))).2.2.2.1; have e3 := (HA.out w2 (H1.out.drew.trans (b2.mono H1.out.drew.size))).2.2.2.2.1; have e4 := (HA.out w2 (H1.out.drew.trans (b2.mono H1.out.drew.size))).2.2.2.2.2; have H2 := Lib.hid b2; clear b2))
        go_wp2_with (fail)
        go_ret
        exact ⟨by simp, H1.out.drew.trans (H2.out.mono H1.out.drew.size)⟩
end Go.Proofs.YtnlncfjibbdimaaDoor
