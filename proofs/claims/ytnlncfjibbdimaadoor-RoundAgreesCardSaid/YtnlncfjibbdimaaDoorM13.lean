/-
  A round in memory: Stage, told, legal, most, Ledger, Place, hear, Accepted, clear, Begin.
-/
import Derived.Test.YtnlncfjibbdimaaDoorBools
import Derived.Test.YtnlncfjibbdimaaDoorL13
import Derived.Test.YtnlncfjibbdimaaDoorLex
import Derived.Lib.SliceRun
namespace Go.Proofs.YtnlncfjibbdimaaDoor
open Go.RowKit
set_option linter.unusedSimpArgs false
set_option linter.unusedVariables false

/-- A round: who answered is told beside it. -/
structure Rnd where
  cmd : Cmd
  reads : Bool
  br : Int
  bn : Int
  stage : Int
  nr : Int
  nn : Int
  led : List Cmd
  begun : Int
/-- A round's twenty-seven cells. -/
def Rnd.cells (r : Rnd) (av pv lv : Value) : List Value :=
  [av, .int .i64 r.cmd.kind, .int .i64 r.cmd.idn, .int .i64 r.cmd.idb, .int .i64 r.cmd.ids, .string r.cmd.bucket, .string r.cmd.key, .int .i64 r.cmd.upn, .int .i64 r.cmd.upb, .int .i64 r.cmd.ups, .int .i64 r.cmd.pbn, .int .i64 r.cmd.pbb, .int .i64 r.cmd.pbs,
    .int .i64 r.cmd.psize, .string r.cmd.etag, .int .i64 r.cmd.part, pv, .int .i64 r.cmd.time, .int .i64 r.cmd.days, .bool r.reads, .int .i64 r.br, .int .i64 r.bn, .int .i64 r.stage, .int .i64 r.nr, .int .i64 r.nn, lv, .int .i64 r.begun]
/-- A round at block g, its row of n answers at block ga; both lie below B, its ledger lies from B on. -/
structure RndAt (w : World) (B g ga n : Nat) (f : Nat → Bool) (r : Rnd) (pv lv : Value) : Prop where
  hg : g < B
  hga : ga < B
  ne : g ≠ ga
  hB : B ≤ w.heap.size
  row : Blk w g 199 (r.cells (.slice (some ⟨ga, 0, none⟩) n n) pv lv).toArray
  ans : Blk w ga 4 (bls f n)
  parts : ∃ p0, p0 ≤ g ∧ p0 ≤ ga ∧ IntsAt w 0 p0 pv r.cmd.parts
  led : LedAt w B w.heap.size lv r.led
  sz : n ≤ 16
theorem RndAt.below {w w' : World} {B B' g ga n : Nat} {f : Nat → Bool} {r : Rnd} {pv lv : Value} (h : RndAt w B g ga n f r pv lv) (b : Below B' w w') (hB' : w.heap.size ≤ B') : RndAt w' B g ga n f r pv lv := by
  have hh := h.hB
  have h1 := h.hg
  have h2 := h.hga
  refine ⟨h.hg, h.hga, h.ne, Nat.le_trans h.hB b.size, h.row.below b (by omega), h.ans.below b (by omega), ?_, (h.led.fr (Fr.of_below b (fun _ => False)) hB' (fun _ _ _ h => h)).wider (Nat.le_refl _) b.size, h.sz⟩
  obtain ⟨p0, q1, q2, q3⟩ := h.parts
  exact ⟨p0, q1, q2, q3.fr (Fr.of_below b (fun _ => False)) (by omega) (fun _ _ _ h => h)⟩

set_option maxHeartbeats 400000 in
theorem stage_any (w : World) (B g ga n : Nat) (f : Nat → Bool) (r : Rnd) (pv lv : Value) (h : RndAt w B g ga n f r pv lv) : Calls Tryd.prog 56 #[.pointer (some ⟨g, 0, none⟩)] w fun e w' => e = .returned (.int .i64 r.stage) ∧ Below w.heap.size w w' := by
  have c : w.cell? ⟨g, 22, none⟩ = some (.int .i64 r.stage) := h.row.cell 22
  clear h
  go_enter Tryd.func56, Tryd.ntmps56
  go_wp2_with (fail)
  go_ret
  exact ⟨rfl, Below.refl _ _⟩

/-- Is there a ledger that is to be accepted? -/
def toldB (s : Int) : Bool := decide (s = 2) || decide (s = 3)
set_option maxHeartbeats 400000 in
theorem told_any (w : World) (B g ga n : Nat) (f : Nat → Bool) (r : Rnd) (pv lv : Value) (h : RndAt w B g ga n f r pv lv) : Calls Tryd.prog 121 #[.pointer (some ⟨g, 0, none⟩)] w (YesNo (toldB r.stage) w) := by
  have c : w.cell? ⟨g, 22, none⟩ = some (.int .i64 r.stage) := h.row.cell 22
  clear h
  by_cases h2 : r.stage = 2
  · rw [h2] at c ⊢
    go_enter Tryd.func121, Tryd.ntmps121
    go_wp2_with (fail)
    go_ret
    exact ⟨rfl, Below.refl _ _⟩
  · by_cases h3 : r.stage = 3
    · rw [h3] at c ⊢
      go_enter Tryd.func121, Tryd.ntmps121
      go_wp2_with (fail)
      go_ret
      exact ⟨rfl, Below.refl _ _⟩
    · have ht : toldB r.stage = false := by unfold toldB; simp [h2, h3]
      rw [ht]
      have b2 : (r.stage == 2) = false := by simp [h2]
      have b3 : (r.stage == 3) = false := by simp [h3]
      go_enter Tryd.func121, Tryd.ntmps121
      go_wp2_with (fail)
      go_ret
      exact ⟨by simp [h2, h3], Below.refl _ _⟩

set_option maxHeartbeats 400000 in
theorem legal116_any (r n : Int) (w : World) :
    Calls Tryd.prog 116 #[.agg #[.int .i64 r, .int .i64 n]] w fun e w' => e = .returned (.bool (lg r n)) ∧ Below w.heap.size w w' := by
  go_enter Tryd.func116, Tryd.ntmps116
  go_wp2
  all_goals
    go_ret
    refine ⟨ret_bool ?_, (Below.refl _ _).alloc (by simp) _⟩
    rw [Bool.eq_iff_iff]
    simp only [lg, Bool.or_eq_true, Bool.and_eq_true, decide_eq_true_eq, true_iff, Bool.false_eq_true, false_iff]
    omega

theorem cnt_step (k : Nat) (f : Nat → Bool) : cnt (k + 1) f = cnt k f + (if f k = true then 1 else 0) := by simp [cnt, List.range_succ, List.countP_append, List.countP_cons]
set_option maxRecDepth 100000 in
set_option maxHeartbeats 1600000 in
theorem most_any (w : World) (B g ga n : Nat) (f : Nat → Bool) (r : Rnd) (pv lv : Value) (h : RndAt w B g ga n f r pv lv) : Calls Tryd.prog 119 #[.pointer (some ⟨g, 0, none⟩)] w (YesNo (decide (half n ≤ (cnt n f : Nat))) w) := by
  have c : w.cell? ⟨g, 0, none⟩ = some (.slice (some ⟨ga, 0, none⟩) n n) := h.row.cell 0
  have hn := h.sz
  have hcell : ∀ k, k < n → w.cell? ⟨ga, k, none⟩ = some (.bool (f k)) := fun k hk => by rw [h.ans.cell k, bls_get hk]
  have HC := Lib.hid hcell
  have k25 := half_any n (by omega)
  have HK := Lib.hid k25
  clear h hcell k25
  go_enter Tryd.func119, Tryd.ntmps119
  go_wp2_with (fail)
  go_loop [3, 11] (fun a i => ∃ k : Nat, k ≤ n ∧ i = .int .i64 k ∧ a = .int .i64 (cnt k f : Nat)) (fun _ i => n - (intOf i).toNat)
  case atStart => exact ⟨0, Nat.zero_le _, rfl, rfl⟩
  case round =>
    obtain ⟨k, hk, rfl, rfl⟩ := hrel
    by_cases hlt : (k : Int) < n
    · have cf := HC.out k (by omega)
      have hle := cnt_le k f
      have hst := cnt_step k f
      have HST := Lib.hid hst
      clear hst
      cases hf : f k with
      | true =>
        rw [hf] at cf
        have HF := Lib.hid hf
        clear hf
        have hw : IntKind.i64.wrap ((cnt k f : Nat) + 1 : Int) = (cnt k f : Nat) + 1 := by rw [IntKind.wrap_i64]; omega
        go_wp2_with (fail)
        go_round
        case rel => exact ⟨k + 1, by omega, by go_num, by rw [HST.out, HF.out]; simp⟩
        case measure => simp [intOf]; omega
      | false =>
        rw [hf] at cf
        have HF := Lib.hid hf
        clear hf
        go_wp2_with (fail)
        go_round
        case rel => exact ⟨k + 1, by omega, by go_num, by rw [HST.out, HF.out]; simp⟩
        case measure => simp [intOf]; omega
    · obtain rfl : k = n := by omega
      go_wp2_with (first | (go_at_call 25; refine (HK.out _).mono ?_; rintro e w2 ⟨rfl, rfl⟩) | fail)
      go_ret
      exact ⟨rfl, Below.refl _ _⟩
end Go.Proofs.YtnlncfjibbdimaaDoor

namespace Go.Proofs.YtnlncfjibbdimaaDoor
open Go.RowKit
set_option linter.unusedSimpArgs false
set_option linter.unusedVariables false

/-- The ledger that is to be accepted. -/
def Rnd.tells (r : Rnd) : List Cmd := if toldB r.stage = true then r.led else []
def Rnd.place (r : Rnd) : Int := if toldB r.stage = true then (if r.reads = true then (r.led.length : Nat) else idxN r.led r.cmd.idn r.cmd.idb r.cmd.ids + 1) else 0

set_option maxRecDepth 100000 in
set_option maxHeartbeats 800000 in
theorem rledger_any (w : World) (B g ga n : Nat) (f : Nat → Bool) (r : Rnd) (pv lv : Value) (h : RndAt w B g ga n f r pv lv) : Calls Tryd.prog 60 #[.pointer (some ⟨g, 0, none⟩)] w fun e w' =>
    ∃ v, e = .returned v ∧ OwnLed w' w.heap.size w'.heap.size v r.tells ∧ Below w.heap.size w w' := by
  have k121 := told_any w B g ga n f r pv lv h
  have HH := Lib.hid h
  unfold Rnd.tells
  cases ht : toldB r.stage with
  | false =>
    rw [ht] at k121
    have HK := Lib.hid k121
    clear k121 h ht
    go_enter Tryd.func60, Tryd.ntmps60
    go_wp2_with (first | (go_at_call 121; refine HK.out.mono ?_; rintro e w1 ⟨rfl, b1⟩; have H1 := Lib.hid b1; clear b1) | fail)
    go_ret
    exact ⟨_, rfl, OwnLed.nil_ _ _ _, H1.out⟩
  | true =>
    rw [ht] at k121
    have HK := Lib.hid k121
    have k118 : ∀ W, Below w.heap.size w W → Calls Tryd.prog 118 #[lv] W (CopyPost W r.led) ∧ W.cell? ⟨g, 25, none⟩ = some lv := fun W b => by
      have h' := h.below b (Nat.le_refl _)
      exact ⟨copied118_any W B W.heap.size lv r.led h'.led (Nat.le_refl _), h'.row.cell 25⟩
    have HK2 := Lib.hid k118
    clear k121 h ht k118
    go_enter Tryd.func60, Tryd.ntmps60
    go_wp2_with (first
      | (go_at_call 121; refine HK.out.mono ?_; rintro e w1 ⟨rfl, b1⟩; have c1 := (HK2.out w1 b1).2; have H1 := Lib.hid b1; clear b1)
      | (go_at_call 118; refine (HK2.out w1 H1.out).1.mono ?_; rintro e w2 ⟨v2, rfl, o2, b2⟩; obtain ⟨A2, c2, hv2, _⟩ := o2.at_.form; have H2 := Lib.hid (And.intro o2 (And.intro b2 hv2)); clear o2 b2 hv2)
      | fail)
    have hv2 := H2.out.2.2
    have o2 := H2.out.1
    have b2 := H2.out.2.1
    subst hv2
    go_ret
    exact ⟨_, rfl, o2.wider H1.out.size (Nat.le_refl _), H1.out.trans (b2.mono H1.out.size)⟩

set_option maxRecDepth 100000 in
set_option maxHeartbeats 1600000 in
theorem rplace_any (w : World) (B g ga n : Nat) (f : Nat → Bool) (r : Rnd) (pv lv : Value) (h : RndAt w B g ga n f r pv lv) (a10 : Addr) (h10 : w.cell? ⟨10, 0, none⟩ = some (errv a10)) : Calls Tryd.prog 61 #[.pointer (some ⟨g, 0, none⟩)] w fun e w' =>
    e = .returned (.int .i64 r.place) ∧ Below w.heap.size w w' := by
  have k121 := told_any w B g ga n f r pv lv h
  have h010 := World.block_lt_of_cell? w _ h10
  obtain ⟨A, cap, hlv, hl1, hl2, hl3⟩ := h.led.form
  obtain ⟨nl, hnl⟩ : ∃ nl, nl = r.led.length := ⟨_, rfl⟩
  rw [← hnl] at hlv
  subst hlv
  have kall : ∀ W, Below w.heap.size w W → Calls Tryd.prog 122 #[.slice A nl cap, .agg #[.int .i64 r.cmd.idn, .int .i64 r.cmd.idb, .int .i64 r.cmd.ids]] W (PlacePost r.led r.cmd.idn r.cmd.idb r.cmd.ids a10 W) ∧
      W.cell? ⟨g, 25, none⟩ = some (.slice A nl cap) ∧ W.cell? ⟨g, 19, none⟩ = some (.bool r.reads) ∧ W.cell? ⟨g, 2, none⟩ = some (.int .i64 r.cmd.idn) ∧ W.cell? ⟨g, 3, none⟩ = some (.int .i64 r.cmd.idb) ∧ W.cell? ⟨g, 4, none⟩ = some (.int .i64 r.cmd.ids) := fun W b => by
    have h' := h.below b (Nat.le_refl _)
    exact ⟨place_any W B W.heap.size _ r.led h'.led (Nat.le_refl _) _ _ _ a10 ((b.cell h010).trans h10), h'.row.cell 25, h'.row.cell 19, h'.row.cell 2, h'.row.cell 3, h'.row.cell 4⟩
  have HA := Lib.hid kall
  have hcs := idxN_cases r.led r.cmd.idn r.cmd.idb r.cmd.ids
  have HL := Lib.hid (And.intro hnl hcs)
  unfold Rnd.place
  rw [← hnl]
  have hnl63 : nl ≤ 9223372036854775807 := by simp only [maxLen] at hl2; omega
  clear kall hl1 hl2 hl3 h h10 h010 hnl hcs
  cases ht : toldB r.stage with
  | false =>
    rw [ht] at k121
    have HK := Lib.hid k121
    clear k121 ht
    go_enter Tryd.func61, Tryd.ntmps61
    go_wp2_with (first | (go_at_call 121; refine HK.out.mono ?_; rintro e w1 ⟨rfl, b1⟩; have H1 := Lib.hid b1; clear b1) | fail)
    go_ret
    exact ⟨by simp, H1.out⟩
  | true =>
    rw [ht] at k121
    have HK := Lib.hid k121
    clear k121 ht
    cases hr : r.reads with
    | true =>
      rw [hr] at HA
      clear hr
      go_enter Tryd.func61, Tryd.ntmps61
      go_wp2_with (first | (go_at_call 121; refine HK.out.mono ?_; rintro e w1 ⟨rfl, b1⟩; have c1 := (HA.out w1 b1).2.1; have c2 := (HA.out w1 b1).2.2.1; have H1 := Lib.hid b1; clear b1) | fail)
      go_ret
      exact ⟨by simp, H1.out⟩
    | false =>
      rw [hr] at HA
      clear hr
      rcases HL.out.2 with hi | ⟨j, hi, hj⟩
      · have k122 : ∀ W, Below w.heap.size w W → Calls Tryd.prog 122 #[.slice A nl cap, .agg #[.int .i64 r.cmd.idn, .int .i64 r.cmd.idb, .int .i64 r.cmd.ids]] W fun e w' => e = .returned (.tuple #[.int .i64 0, errv a10]) ∧ Below W.heap.size W w' := fun W b => by
          refine (HA.out W b).1.mono ?_
          rintro e w' ⟨h1, h2⟩
          rw [hi] at h1
          exact ⟨by rw [h1]; simp, h2⟩
        have HK2 := Lib.hid k122
        rw [hi]
        clear k122 hi
        go_enter Tryd.func61, Tryd.ntmps61
        go_upto_region 5 with (first | (go_at_call 121; refine HK.out.mono ?_; rintro e w1 ⟨rfl, b1⟩; have c1 := (HA.out w1 b1).2.1; have c2 := (HA.out w1 b1).2.2.1; have d2 := (HA.out w1 b1).2.2.2.1; have d3 := (HA.out w1 b1).2.2.2.2.1; have d4 := (HA.out w1 b1).2.2.2.2.2; have H1 := Lib.hid b1; clear b1) | fail)
        go_region_held3 (fun w' => w'.cell? ⟨g, 25, none⟩ = some (.slice A nl cap) ∧ w'.cell? ⟨g, 2, none⟩ = some (.int .i64 r.cmd.idn) ∧ w'.cell? ⟨g, 3, none⟩ = some (.int .i64 r.cmd.idb) ∧ w'.cell? ⟨g, 4, none⟩ = some (.int .i64 r.cmd.ids)) (go_keep)
          (first | (go_at_call 122; refine (HK2.out _ H1.out.drew).mono ?_; rintro e w2 ⟨rfl, b2⟩; have e1 := (HA.out w2 (H1.out.drew.trans (b2.mono H1.out.drew.size))).2.1; have e2 := (HA.out w2 (H1.out.drew.trans (b2.mono H1.out.drew.size))).2.2.2.1; have e3 := (HA.out w2 (H1.out.drew.trans (b2.mono H1.out.drew.size))).2.2.2.2.1; have e4 := (HA.out w2 (H1.out.drew.trans (b2.mono H1.out.drew.size))).2.2.2.2.2; have H2 := Lib.hid b2; clear b2))
        go_wp2_with (fail)
        go_ret
        exact ⟨by simp, H1.out.drew.trans (H2.out.mono H1.out.drew.size)⟩
      · have k122 : ∀ W, Below w.heap.size w W → Calls Tryd.prog 122 #[.slice A nl cap, .agg #[.int .i64 r.cmd.idn, .int .i64 r.cmd.idb, .int .i64 r.cmd.ids]] W fun e w' => e = .returned (.tuple #[.int .i64 ((j : Int) + 1), .nilIface]) ∧ Below W.heap.size W w' := fun W b => by
          refine (HA.out W b).1.mono ?_
          rintro e w' ⟨h1, h2⟩
          rw [hi, if_neg (by omega)] at h1
          exact ⟨h1, h2⟩
        have HK2 := Lib.hid k122
        rw [hi]
        clear k122 hi
        go_enter Tryd.func61, Tryd.ntmps61
        go_upto_region 5 with (first | (go_at_call 121; refine HK.out.mono ?_; rintro e w1 ⟨rfl, b1⟩; have c1 := (HA.out w1 b1).2.1; have c2 := (HA.out w1 b1).2.2.1; have d2 := (HA.out w1 b1).2.2.2.1; have d3 := (HA.out w1 b1).2.2.2.2.1; have d4 := (HA.out w1 b1).2.2.2.2.2; have H1 := Lib.hid b1; clear b1) | fail)
        go_region_held3 (fun w' => w'.cell? ⟨g, 25, none⟩ = some (.slice A nl cap) ∧ w'.cell? ⟨g, 2, none⟩ = some (.int .i64 r.cmd.idn) ∧ w'.cell? ⟨g, 3, none⟩ = some (.int .i64 r.cmd.idb) ∧ w'.cell? ⟨g, 4, none⟩ = some (.int .i64 r.cmd.ids)) (go_keep)
          (first | (go_at_call 122; refine (HK2.out _ H1.out.drew).mono ?_; rintro e w2 ⟨rfl, b2⟩; have e1 := (HA.out w2 (H1.out.drew.trans (b2.mono H1.out.drew.size))).2.1; have e2 := (HA.out w2 (H1.out.drew.trans (b2.mono H1.out.drew.size))).2.2.2.1; have e3 := (HA.out w2 (H1.out.drew.trans (b2.mono H1.out.drew.size))).2.2.2.2.1; have e4 := (HA.out w2 (H1.out.drew.trans (b2.mono H1.out.drew.size))).2.2.2.2.2; have H2 := Lib.hid b2; clear b2))
        go_wp2_with (fail)
        go_ret
        exact ⟨by simp, H1.out.drew.trans (H2.out.mono H1.out.drew.size)⟩
end Go.Proofs.YtnlncfjibbdimaaDoor

namespace Go.Proofs.YtnlncfjibbdimaaDoor
open Go.RowKit
set_option linter.unusedSimpArgs false
set_option linter.unusedVariables false

theorem sth23 : Tryd.prog.stoodInHeld 23 = false := by kernel_rfl
theorem fbh23 : Tryd.prog.underlying 23 = some (.struct (Tryd.prog.fieldsOf 23)) := by unfold Program.fieldsOf; rw [Tryd.underlying23]
theorem neqb23 (a b a' b' : Int) (w : World) : (binOp .neq 23 (.agg #[.int .i64 a, .int .i64 b]) (.agg #[.int .i64 a', .int .i64 b'])).run Tryd.prog w = .ok (.bool (!(decide (a = a') && decide (b = b')))) w := by
  rw [run_neq_struct, show 10000 = 9999 + 1 from rfl, run_equalIn_struct w 9999 23 _ _ fbh23 sth23]
  simp only [Program.fieldsOf, Tryd.underlying23]
  simp [Op.eqFields, go_sem, part]
  by_cases h1 : a = a' <;> by_cases h2 : b = b' <;> simp [h1, h2]

theorem RndAt.set {w : World} {B g ga n : Nat} {f : Nat → Bool} {r : Rnd} {pv lv : Value} (h : RndAt w B g ga n f r pv lv) (j : Nat) : RndAt (w.setCell ⟨ga, j, none⟩ (.bool true)) B g ga n (upd f j true) r pv lv ∧ Fr w.heap.size (fun k => k = ga) w (w.setCell ⟨ga, j, none⟩ (.bool true)) := by
  have hF : Fr w.heap.size (fun k => k = ga) w (w.setCell ⟨ga, j, none⟩ (.bool true)) := (Fr.refl w.heap.size (fun k => k = ga) w).setCell (p := ⟨ga, j, none⟩) (.inl rfl) _
  have h1 := h.hga
  have h2 := h.hg
  have h3 := h.hB
  refine ⟨⟨h.hg, h.hga, h.ne, Nat.le_trans h.hB hF.size, h.row.far (p := ⟨ga, j, none⟩) h.ne _, ?_, ?_, (h.led.fr hF (Nat.le_refl _) (fun k q1 _ he => by omega)).wider (Nat.le_refl _) hF.size, h.sz⟩, hF⟩
  · have := h.ans.set_ j (.bool true)
    rwa [bls_set] at this
  · obtain ⟨p0, q1, q2, q3⟩ := h.parts
    exact ⟨p0, q1, q2, q3.fr hF (by omega) (fun k _ hk he => by omega)⟩

/-- Does an answer count? -/
def fitsR (r : Rnd) (n : Nat) (f : Nat → Bool) (stage from_ br bn : Int) : Prop := r.stage = stage ∧ (br = r.br ∧ bn = r.bn) ∧ ∃ j : Nat, from_ = j ∧ j < n ∧ f j = false
/-- What hear answers. -/
def HearPost (B g ga n : Nat) (f : Nat → Bool) (r : Rnd) (pv lv : Value) (stage from_ br bn : Int) (w : World) (e : Ending) (w' : World) : Prop :=
  (¬ fitsR r n f stage from_ br bn ∧ e = .returned (.bool false) ∧ Below w.heap.size w w') ∨
  (r.stage = stage ∧ (br = r.br ∧ bn = r.bn) ∧ ∃ j : Nat, from_ = j ∧ j < n ∧ f j = false ∧ e = .returned (.bool true) ∧ RndAt w' B g ga n (upd f j true) r pv lv ∧ Fr w.heap.size (fun k => k = ga) w w')

set_option maxRecDepth 100000 in
set_option maxHeartbeats 6400000 in
theorem hear_any (w : World) (B g ga n : Nat) (f : Nat → Bool) (r : Rnd) (pv lv : Value) (h : RndAt w B g ga n f r pv lv) (stage from_ br bn : Int) :
    Calls Tryd.prog 117 #[.pointer (some ⟨g, 0, none⟩), .int .i64 stage, .int .i64 from_, .agg #[.int .i64 br, .int .i64 bn]] w (HearPost B g ga n f r pv lv stage from_ br bn w) := by
  have hq := neqb23 br bn r.br r.bn
  have hn := h.sz
  have bA : Below w.heap.size w (w.alloc (.cells #[.int .i64 br, .int .i64 bn] 23)) := (Below.refl _ _).alloc (Nat.le_refl _) _
  have H := Lib.hid h
  go_enter Tryd.func117, Tryd.ntmps117
  go_upto_region 1 with (fail)
  refine wp_letter (fun W => Below w.heap.size w W ∧ Blk W w.heap.size 23 #[.int .i64 br, .int .i64 bn]) ⟨bA, Blk.new w 23 _⟩ ?_
  clear bA
  rintro W ⟨hb, hX⟩
  obtain ⟨x, hx⟩ : ∃ x, x = w.heap.size := ⟨_, rfl⟩
  rw [← hx] at hX ⊢
  have hR := h.below hb (Nat.le_refl _)
  have hbr : ∀ d os, Below W.heap.size W (Go.Sort.grow (redrawn W d) os) := fun d os => below_regrown W d os
  have cX : ∀ d os i, (Go.Sort.grow (redrawn W d) os).cell? ⟨x, i, none⟩ = (#[.int .i64 br, .int .i64 bn] : Array Value)[i]? := fun d os => (hX.below (hbr d os) hX.lt).cell
  have c0 : ∀ d os, (Go.Sort.grow (redrawn W d) os).cell? ⟨g, 0, none⟩ = some (.slice (some ⟨ga, 0, none⟩) n n) := fun d os => (hR.below (hbr d os) (Nat.le_refl _)).row.cell 0
  have c20 : ∀ d os, (Go.Sort.grow (redrawn W d) os).cell? ⟨g, 20, none⟩ = some (.int .i64 r.br) := fun d os => (hR.below (hbr d os) (Nat.le_refl _)).row.cell 20
  have c21 : ∀ d os, (Go.Sort.grow (redrawn W d) os).cell? ⟨g, 21, none⟩ = some (.int .i64 r.bn) := fun d os => (hR.below (hbr d os) (Nat.le_refl _)).row.cell 21
  have c22 : ∀ d os, (Go.Sort.grow (redrawn W d) os).cell? ⟨g, 22, none⟩ = some (.int .i64 r.stage) := fun d os => (hR.below (hbr d os) (Nat.le_refl _)).row.cell 22
  have cA : ∀ d os k, k < n → (Go.Sort.grow (redrawn W d) os).cell? ⟨ga, k, none⟩ = some (.bool (f k)) := fun d os k hk => by rw [(hR.below (hbr d os) (Nat.le_refl _)).ans.cell k, bls_get hk]
  have HB := Lib.hid (And.intro hb (And.intro hR (And.intro hX hx)))
  have HC := Lib.hid cA
  clear h hb hR hX hbr cA hx
  by_cases hs : r.stage = stage
  · have hsb : (r.stage != stage) = false := by simp [hs]
    by_cases he : br = r.br ∧ bn = r.bn
    · have hq' : ∀ w, (binOp .neq 23 (.agg #[.int .i64 br, .int .i64 bn]) (.agg #[.int .i64 r.br, .int .i64 r.bn])).run Tryd.prog w = .ok (.bool false) w := fun w => by rw [hq w]; simp [he.1, he.2]
      clear hq
      by_cases h0 : from_ < 0
      · have HNO := Lib.hid (show ¬ fitsR r n f stage from_ br bn from fun hf => by obtain ⟨_, _, j, hj, _⟩ := hf; omega)
        have HS := Lib.hid (And.intro hs he)
        clear hs he
        try simp only [List.cons_append, List.nil_append, List.append_eq]
        refine wp_region_quiet_cheap (by kernel_rfl) (by kernel_rfl) (by kernel_rfl) (by kernel_rfl) ?_
        repeat (go_big_quiet_step (fail))
        refine wpQuiet_nil ?_
        intro _ hw'
        obtain ⟨⟨dq, osq⟩, hw''⟩ := hw'
        subst hw''
        go_wp2_with (fail)
        go_ret
        exact .inl ⟨HNO.out, rfl, HB.out.1.trans ((below_regrown W dq osq).mono HB.out.1.size)⟩
      · by_cases h1 : from_ ≥ n
        · have HNO := Lib.hid (show ¬ fitsR r n f stage from_ br bn from fun hf => by obtain ⟨_, _, j, hj, hjn, _⟩ := hf; omega)
          have HS := Lib.hid (And.intro hs he)
          clear hs he
          try simp only [List.cons_append, List.nil_append, List.append_eq]
          refine wp_region_quiet_cheap (by kernel_rfl) (by kernel_rfl) (by kernel_rfl) (by kernel_rfl) ?_
          repeat (go_big_quiet_step (fail))
          refine wpQuiet_nil ?_
          intro _ hw'
          obtain ⟨⟨dq, osq⟩, hw''⟩ := hw'
          subst hw''
          go_wp2_with (fail)
          go_ret
          exact .inl ⟨HNO.out, rfl, HB.out.1.trans ((below_regrown W dq osq).mono HB.out.1.size)⟩
        · obtain ⟨j, rfl⟩ : ∃ j : Nat, from_ = j := ⟨from_.toNat, by omega⟩
          have hjn : j < n := by omega
          have cj := fun d os => HC.out d os j hjn
          have hj1 : (j : Int) < n := by omega
          cases hf : f j with
          | true =>
            simp only [hf] at cj
            have HNO := Lib.hid (show ¬ fitsR r n f stage j br bn from fun hh => by obtain ⟨_, _, j', hj', _, hf'⟩ := hh; obtain rfl : j = j' := (by omega); rw [hf] at hf'; cases hf')
            have HS := Lib.hid (And.intro hs he)
            clear hs he hf
            try simp only [List.cons_append, List.nil_append, List.append_eq]
            refine wp_region_quiet_cheap (by kernel_rfl) (by kernel_rfl) (by kernel_rfl) (by kernel_rfl) ?_
            repeat (go_big_quiet_step (fail))
            refine wpQuiet_nil ?_
            intro _ hw'
            obtain ⟨⟨dq, osq⟩, hw''⟩ := hw'
            subst hw''
            go_wp2_with (fail)
            go_ret
            exact .inl ⟨HNO.out, rfl, HB.out.1.trans ((below_regrown W dq osq).mono HB.out.1.size)⟩
          | false =>
            simp only [hf] at cj
            have HS := Lib.hid (And.intro hs (And.intro he hf))
            have fz : ∀ d os, (Go.Sort.grow (redrawn W d) os).frozen? ⟨ga, j, none⟩ = false := fun d os => (HB.out.2.1.below (below_regrown W d os) (Nat.le_refl _)).ans.frozen j
            clear hs he hf
            try simp only [List.cons_append, List.nil_append, List.append_eq]
            refine wp_region_quiet_cheap (by kernel_rfl) (by kernel_rfl) (by kernel_rfl) (by kernel_rfl) ?_
            repeat (go_big_quiet_step (fail))
            refine wpQuiet_nil ?_
            intro _ hw'
            obtain ⟨⟨dq, osq⟩, hw''⟩ := hw'
            subst hw''
            have hset := (HB.out.2.1.below (below_regrown W dq osq) (Nat.le_refl _)).set j
            have hbq := HB.out.1.trans ((below_regrown W dq osq).mono HB.out.1.size)
            have HSET := Lib.hid (And.intro hset.1 (And.intro hset.2 hbq))
            clear hset hbq
            go_wp2_with (fail)
            go_ret
            exact .inr ⟨HS.out.1, HS.out.2.1, j, rfl, hjn, HS.out.2.2, rfl, HSET.out.1, (Fr.of_below HSET.out.2.2 _).trans (HSET.out.2.1.mono HSET.out.2.2.size (fun _ _ h => h))⟩
    · have hq' : ∀ w, (binOp .neq 23 (.agg #[.int .i64 br, .int .i64 bn]) (.agg #[.int .i64 r.br, .int .i64 r.bn])).run Tryd.prog w = .ok (.bool true) w := fun w => by
        rw [hq w]
        by_cases h1 : br = r.br <;> by_cases h2 : bn = r.bn <;> simp_all
      clear hq
      have HNO := Lib.hid (show ¬ fitsR r n f stage from_ br bn from fun hf => he hf.2.1)
      have HS := Lib.hid (And.intro hs he)
      clear hs he
      try simp only [List.cons_append, List.nil_append, List.append_eq]
      refine wp_region_quiet_cheap (by kernel_rfl) (by kernel_rfl) (by kernel_rfl) (by kernel_rfl) ?_
      repeat (go_big_quiet_step (fail))
      refine wpQuiet_nil ?_
      intro _ hw'
      obtain ⟨⟨dq, osq⟩, hw''⟩ := hw'
      subst hw''
      go_wp2_with (fail)
      go_ret
      exact .inl ⟨HNO.out, rfl, HB.out.1.trans ((below_regrown W dq osq).mono HB.out.1.size)⟩
  · have hsb : (r.stage != stage) = true := by simp [hs]
    have HNO := Lib.hid (show ¬ fitsR r n f stage from_ br bn from fun hf => hs hf.1)
    have HS := Lib.hid hs
    clear hs hq
    try simp only [List.cons_append, List.nil_append, List.append_eq]
    refine wp_region_quiet_cheap (by kernel_rfl) (by kernel_rfl) (by kernel_rfl) (by kernel_rfl) ?_
    repeat (go_big_quiet_step (fail))
    refine wpQuiet_nil ?_
    intro _ hw'
    obtain ⟨⟨dq, osq⟩, hw''⟩ := hw'
    subst hw''
    go_wp2_with (fail)
    go_ret
    exact .inl ⟨HNO.out, rfl, HB.out.1.trans ((below_regrown W dq osq).mono HB.out.1.size)⟩
end Go.Proofs.YtnlncfjibbdimaaDoor

namespace Go.Proofs.YtnlncfjibbdimaaDoor
open Go.RowKit
set_option linter.unusedSimpArgs false
set_option linter.unusedVariables false

theorem RndAt.stg {w : World} {B g ga n : Nat} {f : Nat → Bool} {r : Rnd} {pv lv : Value} (h : RndAt w B g ga n f r pv lv) (s : Int) : RndAt (w.setCell ⟨g, 22, none⟩ (.int .i64 s)) B g ga n f { r with stage := s } pv lv ∧ Fr w.heap.size (fun k => k = g) w (w.setCell ⟨g, 22, none⟩ (.int .i64 s)) := by
  have hF : Fr w.heap.size (fun k => k = g) w (w.setCell ⟨g, 22, none⟩ (.int .i64 s)) := (Fr.refl w.heap.size (fun k => k = g) w).setCell (p := ⟨g, 22, none⟩) (.inl rfl) _
  have h1 := h.hga
  have h2 := h.hg
  have h3 := h.hB
  refine ⟨⟨h.hg, h.hga, h.ne, Nat.le_trans h.hB hF.size, h.row.set_ 22 _, h.ans.far (p := ⟨g, 22, none⟩) h.ne.symm _, ?_, (h.led.fr hF (Nat.le_refl _) (fun k q1 _ he => by omega)).wider (Nat.le_refl _) hF.size, h.sz⟩, hF⟩
  obtain ⟨p0, q1, q2, q3⟩ := h.parts
  exact ⟨p0, q1, q2, q3.fr hF (by omega) (fun k _ hk he => by omega)⟩

/-- What Accepted answers. -/
def AcceptedPost (B g ga n : Nat) (f : Nat → Bool) (r : Rnd) (pv lv : Value) (from_ br bn : Int) (w : World) (e : Ending) (w' : World) : Prop :=
  (¬ fitsR r n f 2 from_ br bn ∧ e = .returned (.bool false) ∧ Below w.heap.size w w') ∨
  (r.stage = 2 ∧ (br = r.br ∧ bn = r.bn) ∧ ∃ j : Nat, from_ = j ∧ j < n ∧ f j = false ∧ e = .returned (.bool true) ∧
    RndAt w' B g ga n (upd f j true) { r with stage := if half n ≤ (cnt n (upd f j true) : Nat) then 3 else 2 } pv lv ∧ Fr w.heap.size (fun k => k = g ∨ k = ga) w w')

set_option maxRecDepth 100000 in
set_option maxHeartbeats 1600000 in
theorem accepted13_any (w : World) (B g ga n : Nat) (f : Nat → Bool) (r : Rnd) (pv lv : Value) (h : RndAt w B g ga n f r pv lv) (from_ br bn : Int) :
    Calls Tryd.prog 62 #[.pointer (some ⟨g, 0, none⟩), .int .i64 from_, .agg #[.int .i64 br, .int .i64 bn]] w (AcceptedPost B g ga n f r pv lv from_ br bn w) := by
  have bA : Below w.heap.size w (w.alloc (.cells #[.int .i64 br, .int .i64 bn] 23)) := (Below.refl _ _).alloc (Nat.le_refl _) _
  have hX := Blk.new w 23 #[.int .i64 br, .int .i64 bn]
  have x0 := hX.cell 0
  have x1 := hX.cell 1
  have k117 := hear_any (w.alloc (.cells #[.int .i64 br, .int .i64 bn] 23)) B g ga n f r pv lv (h.below bA (Nat.le_refl _)) 2 from_ br bn
  have hgB := h.hg
  have hBw := h.hB
  have HK := Lib.hid (And.intro k117 bA)
  clear h bA hX k117
  go_enter Tryd.func62, Tryd.ntmps62
  go_upto_region 2 with (first | (go_at_call 117; refine HK.out.1.mono ?_; rintro e w1 (⟨hf, rfl, b1⟩ | ⟨hs, hb, j, rfl, hj, hfj, rfl, R1, F1⟩)) | fail)
  · go_wp2_with (fail)
    go_ret
    exact .inl ⟨hf, rfl, HK.out.2.trans (b1.mono HK.out.2.size)⟩
  · have k119 := most_any w1 B g ga n (upd f j true) r pv lv R1
    have F0 : Fr w.heap.size (fun k => k = g ∨ k = ga) w w1 := (Fr.of_below HK.out.2 _).trans (F1.mono HK.out.2.size (fun _ _ h => .inr h))
    have H1 := Lib.hid (And.intro R1 (And.intro F0 (And.intro hs (And.intro hb hfj))))
    clear R1 F1 F0 hs hb hfj
    by_cases hm : half n ≤ (cnt n (upd f j true) : Nat)
    · rw [decide_eq_true hm] at k119
      have HK2 := Lib.hid (And.intro k119 hm)
      clear k119 hm
      go_wp2_with (first
        | (go_at_call 119
           refine HK2.out.1.mono ?_
           rintro e w2 ⟨rfl, b2⟩
           have R2 := H1.out.1.below b2 (Nat.le_refl _)
           have c22 := R2.row.cell 22
           have f22 := R2.row.frozen 22
           have c22' : w2.cell? ⟨g, 22, none⟩ = some (.int .i64 r.stage) := c22
           have H2 := Lib.hid (And.intro R2 b2)
           clear R2 b2 c22)
        | fail)
      go_ret
      have hst := H2.out.1.stg 3
      refine .inr ⟨H1.out.2.2.1, H1.out.2.2.2.1, j, rfl, hj, H1.out.2.2.2.2, rfl, ?_, ?_⟩
      · rw [if_pos HK2.out.2]; exact hst.1
      · exact H1.out.2.1.trans (((Fr.of_below H2.out.2 (fun k => k = g ∨ k = ga)).trans (hst.2.mono H2.out.2.size (fun _ _ h => .inl h))).mono H1.out.2.1.size (fun _ _ h => h))
    · rw [decide_eq_false hm] at k119
      have HK2 := Lib.hid (And.intro k119 hm)
      clear k119 hm
      go_wp2_with (first
        | (go_at_call 119
           refine HK2.out.1.mono ?_
           rintro e w2 ⟨rfl, b2⟩
           have H2 := Lib.hid (And.intro (H1.out.1.below b2 (Nat.le_refl _)) b2)
           clear b2)
        | fail)
      go_ret
      refine .inr ⟨H1.out.2.2.1, H1.out.2.2.2.1, j, rfl, hj, H1.out.2.2.2.2, rfl, ?_, ?_⟩
      · rw [if_neg (Int.not_le.2 HK2.out.2)]
        have hs2 : r.stage = 2 := H1.out.2.2.1
        have he : ({ r with stage := 2 } : Rnd) = r := by cases r; simp at hs2; simp [hs2]
        rw [he]
        exact H2.out.1
      · exact H1.out.2.1.trans ((Fr.of_below H2.out.2 (fun k => k = g ∨ k = ga)).mono H1.out.2.1.size (fun _ _ h => h))
end Go.Proofs.YtnlncfjibbdimaaDoor

namespace Go.Proofs.YtnlncfjibbdimaaDoor
open Go.RowKit
set_option linter.unusedSimpArgs false
set_option linter.unusedVariables false

theorem bls_false (n : Nat) : bls (fun _ => false) n = (List.replicate n (Value.bool false)).toArray := by
  apply Array.ext_getElem?
  intro i
  by_cases hi : i < n
  · rw [bls_get hi]; simp [hi]
  · rw [Array.getElem?_eq_none (by rw [bls_size]; omega), Array.getElem?_eq_none (by simp; omega)]
theorem clear_bools {W : World} {B g ga n : Nat} {f : Nat → Bool} {r : Rnd} {pv lv : Value} (h : RndAt W B g ga n f r pv lv) (hn : 0 < n) :
    ∃ W', (∀ ty, (Builtin.clear_ #[108] ty #[.slice (some ⟨ga, 0, none⟩) n n]).run Tryd.prog W = .ok (.tuple #[]) W') ∧ RndAt W' B g ga n (fun _ => false) r pv lv ∧ Fr W.heap.size (fun k => k = ga) W W' := by
  have hc : ∀ j, j < n → (W.cell? ⟨ga, 0 + j, none⟩) = some (.bool (f j)) := fun j hj => by rw [Nat.zero_add, h.ans.cell j, bls_get hj]
  have hf : ∀ j, j < n → W.frozen? ⟨ga, 0 + j, none⟩ = false := fun j _ => h.ans.frozen _
  have hcl := fun ty => Lib.run_clear_slice (P := Tryd.prog) W 108 4 ty (.bool false) Tryd.underlying108 (fun w => by kernel_rfl) rfl rfl ga 0 n n hn (fun j hj => by rw [hc j hj]; rfl) hf
  have hst := run_storeCells_cells (P := Tryd.prog) ga 0 (List.replicate n (.bool false)) 0 W (fun j hj => by have hj' : j < n := by { simpa using hj }; have := hc j hj'; simp only [Nat.zero_add] at this ⊢; rw [this]; rfl) (fun j _ => h.ans.frozen _) (by intro v hv; rw [List.eq_of_mem_replicate hv]; rfl)
  have hst2 := run_storeCells_from (P := Tryd.prog) ga 4 (List.replicate n (.bool false)) 0 (bls f n) W h.ans (by simp [bls_size]) (by intro v hv; rw [List.eq_of_mem_replicate hv]; rfl)
  rw [hst] at hst2
  injection hst2 with _ e
  rw [List.take_zero, List.nil_append, ← bls_false, Nat.zero_add] at e
  have hF : Fr W.heap.size (fun k => k = ga) W (W.setRow ga (bls (fun _ => false) n)) := by
    refine ⟨rfl, rfl, rfl, by simp [World.setRow], fun k hk hs => ?_⟩
    simp only [World.setRow, Array.getElem?_modify]
    rw [if_neg (by omega)]
  have h1 := h.hga
  have h2 := h.hg
  have h3 := h.hB
  have hne := h.ne
  refine ⟨W.setRow ga (bls (fun _ => false) n), fun ty => by rw [hcl ty, e], ⟨h.hg, h.hga, h.ne, Nat.le_trans h.hB hF.size, h.row.fr hF (by omega) (by omega), setRow_heap W ga (bls f n) _ 4 (0, 0) h.ans, ?_, (h.led.fr hF (Nat.le_refl _) (fun k q1 _ he => by omega)).wider (Nat.le_refl _) hF.size, h.sz⟩, hF⟩
  obtain ⟨p0, q1, q2, q3⟩ := h.parts
  exact ⟨p0, q1, q2, q3.fr hF (by omega) (fun k _ hk he => by omega)⟩
end Go.Proofs.YtnlncfjibbdimaaDoor

namespace Go.Proofs.YtnlncfjibbdimaaDoor
open Go.RowKit
set_option linter.unusedSimpArgs false
set_option linter.unusedVariables false

set_option maxRecDepth 100000 in
set_option maxHeartbeats 1600000 in
theorem begin_late (w : World) (B g ga n : Nat) (f : Nat → Bool) (r : Rnd) (pv lv : Value) (h : RndAt w B g ga n f r pv lv) (br bn : Int) (a1 : Addr) (h1 : w.cell? ⟨1, 0, none⟩ = some (errv a1)) (hs : 3 ≤ r.stage) :
    Calls Tryd.prog 55 #[.pointer (some ⟨g, 0, none⟩), .agg #[.int .i64 br, .int .i64 bn]] w fun e w' => e = .returned (errv a1) ∧ Below w.heap.size w w' := by
  have bA : Below w.heap.size w (w.alloc (.cells #[.int .i64 br, .int .i64 bn] 23)) := (Below.refl _ _).alloc (Nat.le_refl _) _
  have c22 : (w.alloc (.cells #[.int .i64 br, .int .i64 bn] 23)).cell? ⟨g, 22, none⟩ = some (.int .i64 r.stage) := (h.below bA (Nat.le_refl _)).row.cell 22
  have c1 := (bA.cell (World.block_lt_of_cell? w _ h1)).trans h1
  have HB := Lib.hid bA
  clear h h1 bA
  go_enter Tryd.func55, Tryd.ntmps55
  go_wp2_with (fail)
  go_ret
  exact ⟨rfl, HB.out⟩

set_option maxRecDepth 100000 in
set_option maxHeartbeats 1600000 in
theorem begin_illegal (w : World) (B g ga n : Nat) (f : Nat → Bool) (r : Rnd) (pv lv : Value) (h : RndAt w B g ga n f r pv lv) (br bn : Int) (a3 : Addr) (h3 : w.cell? ⟨3, 0, none⟩ = some (errv a3)) (hs : r.stage < 3) (hl : lg br bn = false) :
    Calls Tryd.prog 55 #[.pointer (some ⟨g, 0, none⟩), .agg #[.int .i64 br, .int .i64 bn]] w fun e w' => e = .returned (errv a3) ∧ Below w.heap.size w w' := by
  have bA : Below w.heap.size w (w.alloc (.cells #[.int .i64 br, .int .i64 bn] 23)) := (Below.refl _ _).alloc (Nat.le_refl _) _
  have c22 : (w.alloc (.cells #[.int .i64 br, .int .i64 bn] 23)).cell? ⟨g, 22, none⟩ = some (.int .i64 r.stage) := (h.below bA (Nat.le_refl _)).row.cell 22
  have k116 : ∀ W, Calls Tryd.prog 116 #[.agg #[.int .i64 br, .int .i64 bn]] W fun e w' => e = .returned (.bool false) ∧ Below W.heap.size W w' := fun W => by rw [← hl]; exact legal116_any br bn W
  have h03 := World.block_lt_of_cell? w _ h3
  have HB := Lib.hid (And.intro h3 h03)
  have hs' : ¬ r.stage ≥ 3 := by omega
  go_enter Tryd.func55, Tryd.ntmps55
  go_upto_region 3 with (fail)
  refine wp_letter (fun W => Below w.heap.size w W ∧ Blk W w.heap.size 23 #[.int .i64 br, .int .i64 bn]) ⟨bA, Blk.new w 23 _⟩ ?_
  rintro W ⟨hb, hX⟩
  obtain ⟨x, hx⟩ : ∃ x, x = w.heap.size := ⟨_, rfl⟩
  rw [← hx] at hX ⊢
  have cX : ∀ d os i, (Go.Sort.grow (redrawn W d) os).cell? ⟨x, i, none⟩ = (#[.int .i64 br, .int .i64 bn] : Array Value)[i]? := fun d os => (hX.below (below_regrown W d os) hX.lt).cell
  have HW := Lib.hid hb
  clear h h3 bA hX h03 hl hb hx c22
  try simp only [List.cons_append, List.nil_append, List.append_eq]
  refine wp_region_quiet_cheap (by kernel_rfl) (by kernel_rfl) (by kernel_rfl) (by kernel_rfl) ?_
  repeat (go_big_quiet_step (first | (with_reducible exact Calls.regrown_of (k116 _))))
  refine wpQuiet_nil ?_
  intro _ hw'
  obtain ⟨⟨dq, osq⟩, hw''⟩ := hw'
  subst hw''
  have hfin := HW.out.trans ((below_regrown W dq osq).mono HW.out.size)
  have c3 := (hfin.cell HB.out.2).trans HB.out.1
  have HF := Lib.hid hfin
  clear hfin
  go_wp2_with (fail)
  go_ret
  exact ⟨rfl, HF.out⟩
set_option maxRecDepth 100000 in
set_option maxHeartbeats 1600000 in
theorem begin_low (w : World) (B g ga n : Nat) (f : Nat → Bool) (r : Rnd) (pv lv : Value) (h : RndAt w B g ga n f r pv lv) (br bn : Int) (a3 : Addr) (h3 : w.cell? ⟨3, 0, none⟩ = some (errv a3)) (hs : r.stage < 3) (hl : lg br bn = true) (ha : ab br bn r.br r.bn = false) :
    Calls Tryd.prog 55 #[.pointer (some ⟨g, 0, none⟩), .agg #[.int .i64 br, .int .i64 bn]] w fun e w' => e = .returned (errv a3) ∧ Below w.heap.size w w' := by
  have bA : Below w.heap.size w (w.alloc (.cells #[.int .i64 br, .int .i64 bn] 23)) := (Below.refl _ _).alloc (Nat.le_refl _) _
  have c22 : (w.alloc (.cells #[.int .i64 br, .int .i64 bn] 23)).cell? ⟨g, 22, none⟩ = some (.int .i64 r.stage) := (h.below bA (Nat.le_refl _)).row.cell 22
  have k116 : ∀ W, Calls Tryd.prog 116 #[.agg #[.int .i64 br, .int .i64 bn]] W fun e w' => e = .returned (.bool true) ∧ Below W.heap.size W w' := fun W => by rw [← hl]; exact legal116_any br bn W
  have k23 : ∀ W, Calls Tryd.prog 23 #[.agg #[.int .i64 br, .int .i64 bn], .agg #[.int .i64 r.br, .int .i64 r.bn]] W fun e w' => e = .returned (.bool false) ∧ Below W.heap.size W w' := fun W => by rw [← ha]; exact above_any br bn r.br r.bn W
  have h03 := World.block_lt_of_cell? w _ h3
  have HB := Lib.hid (And.intro h3 h03)
  have hs' : ¬ r.stage ≥ 3 := by omega
  go_enter Tryd.func55, Tryd.ntmps55
  go_upto_region 3 with (fail)
  refine wp_letter (fun W => Below w.heap.size w W ∧ Blk W w.heap.size 23 #[.int .i64 br, .int .i64 bn]) ⟨bA, Blk.new w 23 _⟩ ?_
  rintro W ⟨hb, hX⟩
  obtain ⟨x, hx⟩ : ∃ x, x = w.heap.size := ⟨_, rfl⟩
  rw [← hx] at hX ⊢
  have cX : ∀ d os i, (Go.Sort.grow (redrawn W d) os).cell? ⟨x, i, none⟩ = (#[.int .i64 br, .int .i64 bn] : Array Value)[i]? := fun d os => (hX.below (below_regrown W d os) hX.lt).cell
  have hR := h.below hb (Nat.le_refl _)
  have c20 : ∀ d os, (Go.Sort.grow (redrawn W d) os).cell? ⟨g, 20, none⟩ = some (.int .i64 r.br) := fun d os => (hR.below (below_regrown W d os) (Nat.le_refl _)).row.cell 20
  have c21 : ∀ d os, (Go.Sort.grow (redrawn W d) os).cell? ⟨g, 21, none⟩ = some (.int .i64 r.bn) := fun d os => (hR.below (below_regrown W d os) (Nat.le_refl _)).row.cell 21
  have HW := Lib.hid hb
  clear h hR h3 bA hX h03 hl ha hb hx c22
  try simp only [List.cons_append, List.nil_append, List.append_eq]
  refine wp_region_quiet_cheap (by kernel_rfl) (by kernel_rfl) (by kernel_rfl) (by kernel_rfl) ?_
  repeat (go_big_quiet_step (first | (with_reducible exact Calls.regrown_of (k116 _)) | (with_reducible exact Calls.regrown_of (k23 _))))
  refine wpQuiet_nil ?_
  intro _ hw'
  obtain ⟨⟨dq, osq⟩, hw''⟩ := hw'
  subst hw''
  have hfin := HW.out.trans ((below_regrown W dq osq).mono HW.out.size)
  have c3 := (hfin.cell HB.out.2).trans HB.out.1
  have HF := Lib.hid hfin
  clear hfin
  go_wp2_with (fail)
  go_ret
  exact ⟨rfl, HF.out⟩
theorem RndAt.sbr {w : World} {B g ga n : Nat} {f : Nat → Bool} {r : Rnd} {pv lv : Value} (h : RndAt w B g ga n f r pv lv) (s : Int) : RndAt (w.setCell ⟨g, 20, none⟩ (.int .i64 s)) B g ga n f { r with br := s } pv lv ∧ Fr w.heap.size (fun k => k = g) w (w.setCell ⟨g, 20, none⟩ (.int .i64 s)) := by
  have hF : Fr w.heap.size (fun k => k = g) w (w.setCell ⟨g, 20, none⟩ (.int .i64 s)) := (Fr.refl w.heap.size (fun k => k = g) w).setCell (p := ⟨g, 20, none⟩) (.inl rfl) _
  have h1 := h.hga
  have h2 := h.hg
  have h3 := h.hB
  refine ⟨⟨h.hg, h.hga, h.ne, Nat.le_trans h.hB hF.size, h.row.set_ 20 _, h.ans.far (p := ⟨g, 20, none⟩) h.ne.symm _, ?_, (h.led.fr hF (Nat.le_refl _) (fun k q1 _ he => by omega)).wider (Nat.le_refl _) hF.size, h.sz⟩, hF⟩
  obtain ⟨p0, q1, q2, q3⟩ := h.parts
  exact ⟨p0, q1, q2, q3.fr hF (by omega) (fun k _ hk he => by omega)⟩
theorem RndAt.sbn {w : World} {B g ga n : Nat} {f : Nat → Bool} {r : Rnd} {pv lv : Value} (h : RndAt w B g ga n f r pv lv) (s : Int) : RndAt (w.setCell ⟨g, 21, none⟩ (.int .i64 s)) B g ga n f { r with bn := s } pv lv ∧ Fr w.heap.size (fun k => k = g) w (w.setCell ⟨g, 21, none⟩ (.int .i64 s)) := by
  have hF : Fr w.heap.size (fun k => k = g) w (w.setCell ⟨g, 21, none⟩ (.int .i64 s)) := (Fr.refl w.heap.size (fun k => k = g) w).setCell (p := ⟨g, 21, none⟩) (.inl rfl) _
  have h1 := h.hga
  have h2 := h.hg
  have h3 := h.hB
  refine ⟨⟨h.hg, h.hga, h.ne, Nat.le_trans h.hB hF.size, h.row.set_ 21 _, h.ans.far (p := ⟨g, 21, none⟩) h.ne.symm _, ?_, (h.led.fr hF (Nat.le_refl _) (fun k q1 _ he => by omega)).wider (Nat.le_refl _) hF.size, h.sz⟩, hF⟩
  obtain ⟨p0, q1, q2, q3⟩ := h.parts
  exact ⟨p0, q1, q2, q3.fr hF (by omega) (fun k _ hk he => by omega)⟩
theorem RndAt.sst {w : World} {B g ga n : Nat} {f : Nat → Bool} {r : Rnd} {pv lv : Value} (h : RndAt w B g ga n f r pv lv) (s : Int) : RndAt (w.setCell ⟨g, 22, none⟩ (.int .i64 s)) B g ga n f { r with stage := s } pv lv ∧ Fr w.heap.size (fun k => k = g) w (w.setCell ⟨g, 22, none⟩ (.int .i64 s)) := by
  have hF : Fr w.heap.size (fun k => k = g) w (w.setCell ⟨g, 22, none⟩ (.int .i64 s)) := (Fr.refl w.heap.size (fun k => k = g) w).setCell (p := ⟨g, 22, none⟩) (.inl rfl) _
  have h1 := h.hga
  have h2 := h.hg
  have h3 := h.hB
  refine ⟨⟨h.hg, h.hga, h.ne, Nat.le_trans h.hB hF.size, h.row.set_ 22 _, h.ans.far (p := ⟨g, 22, none⟩) h.ne.symm _, ?_, (h.led.fr hF (Nat.le_refl _) (fun k q1 _ he => by omega)).wider (Nat.le_refl _) hF.size, h.sz⟩, hF⟩
  obtain ⟨p0, q1, q2, q3⟩ := h.parts
  exact ⟨p0, q1, q2, q3.fr hF (by omega) (fun k _ hk he => by omega)⟩
theorem RndAt.snr {w : World} {B g ga n : Nat} {f : Nat → Bool} {r : Rnd} {pv lv : Value} (h : RndAt w B g ga n f r pv lv) (s : Int) : RndAt (w.setCell ⟨g, 23, none⟩ (.int .i64 s)) B g ga n f { r with nr := s } pv lv ∧ Fr w.heap.size (fun k => k = g) w (w.setCell ⟨g, 23, none⟩ (.int .i64 s)) := by
  have hF : Fr w.heap.size (fun k => k = g) w (w.setCell ⟨g, 23, none⟩ (.int .i64 s)) := (Fr.refl w.heap.size (fun k => k = g) w).setCell (p := ⟨g, 23, none⟩) (.inl rfl) _
  have h1 := h.hga
  have h2 := h.hg
  have h3 := h.hB
  refine ⟨⟨h.hg, h.hga, h.ne, Nat.le_trans h.hB hF.size, h.row.set_ 23 _, h.ans.far (p := ⟨g, 23, none⟩) h.ne.symm _, ?_, (h.led.fr hF (Nat.le_refl _) (fun k q1 _ he => by omega)).wider (Nat.le_refl _) hF.size, h.sz⟩, hF⟩
  obtain ⟨p0, q1, q2, q3⟩ := h.parts
  exact ⟨p0, q1, q2, q3.fr hF (by omega) (fun k _ hk he => by omega)⟩
theorem RndAt.snn {w : World} {B g ga n : Nat} {f : Nat → Bool} {r : Rnd} {pv lv : Value} (h : RndAt w B g ga n f r pv lv) (s : Int) : RndAt (w.setCell ⟨g, 24, none⟩ (.int .i64 s)) B g ga n f { r with nn := s } pv lv ∧ Fr w.heap.size (fun k => k = g) w (w.setCell ⟨g, 24, none⟩ (.int .i64 s)) := by
  have hF : Fr w.heap.size (fun k => k = g) w (w.setCell ⟨g, 24, none⟩ (.int .i64 s)) := (Fr.refl w.heap.size (fun k => k = g) w).setCell (p := ⟨g, 24, none⟩) (.inl rfl) _
  have h1 := h.hga
  have h2 := h.hg
  have h3 := h.hB
  refine ⟨⟨h.hg, h.hga, h.ne, Nat.le_trans h.hB hF.size, h.row.set_ 24 _, h.ans.far (p := ⟨g, 24, none⟩) h.ne.symm _, ?_, (h.led.fr hF (Nat.le_refl _) (fun k q1 _ he => by omega)).wider (Nat.le_refl _) hF.size, h.sz⟩, hF⟩
  obtain ⟨p0, q1, q2, q3⟩ := h.parts
  exact ⟨p0, q1, q2, q3.fr hF (by omega) (fun k _ hk he => by omega)⟩
theorem RndAt.sled {w : World} {B g ga n : Nat} {f : Nat → Bool} {r : Rnd} {pv lv : Value} (h : RndAt w B g ga n f r pv lv) : RndAt (w.setCell ⟨g, 25, none⟩ (.slice none 0 0)) B g ga n f { r with led := [] } pv (.slice none 0 0) ∧ Fr w.heap.size (fun k => k = g) w (w.setCell ⟨g, 25, none⟩ (.slice none 0 0)) := by
  have hF : Fr w.heap.size (fun k => k = g) w (w.setCell ⟨g, 25, none⟩ (.slice none 0 0)) := (Fr.refl w.heap.size (fun k => k = g) w).setCell (p := ⟨g, 25, none⟩) (.inl rfl) _
  have h1 := h.hga
  have h2 := h.hg
  have h3 := h.hB
  refine ⟨⟨h.hg, h.hga, h.ne, Nat.le_trans h.hB hF.size, h.row.set_ 25 _, h.ans.far (p := ⟨g, 25, none⟩) h.ne.symm _, ?_, (OwnLed.nil_ _ _ _).at_, h.sz⟩, hF⟩
  obtain ⟨p0, q1, q2, q3⟩ := h.parts
  exact ⟨p0, q1, q2, q3.fr hF (by omega) (fun k _ hk he => by omega)⟩
theorem RndAt.began {w : World} {B g ga n : Nat} {f : Nat → Bool} {r : Rnd} {pv lv : Value} (h : RndAt w B g ga n f r pv lv) (br bn : Int) :
    RndAt ((((((w.setCell ⟨g, 20, none⟩ (.int .i64 br)).setCell ⟨g, 21, none⟩ (.int .i64 bn)).setCell ⟨g, 22, none⟩ (.int .i64 1)).setCell ⟨g, 23, none⟩ (.int .i64 0)).setCell ⟨g, 24, none⟩ (.int .i64 0)).setCell ⟨g, 25, none⟩ (.slice none 0 0))
      B g ga n f { r with br := br, bn := bn, stage := 1, nr := 0, nn := 0, led := [] } pv (.slice none 0 0) ∧
    Fr w.heap.size (fun k => k = g) w ((((((w.setCell ⟨g, 20, none⟩ (.int .i64 br)).setCell ⟨g, 21, none⟩ (.int .i64 bn)).setCell ⟨g, 22, none⟩ (.int .i64 1)).setCell ⟨g, 23, none⟩ (.int .i64 0)).setCell ⟨g, 24, none⟩ (.int .i64 0)).setCell ⟨g, 25, none⟩ (.slice none 0 0)) := by
  have a := h.sbr br
  have b := a.1.sbn bn
  have c := b.1.sst 1
  have d := c.1.snr 0
  have e := d.1.snn 0
  have z := e.1.sled
  refine ⟨z.1, ?_⟩
  have s1 := a.2.trans (b.2.mono a.2.size (fun _ _ h => h))
  have s2 := s1.trans (c.2.mono s1.size (fun _ _ h => h))
  have s3 := s2.trans (d.2.mono s2.size (fun _ _ h => h))
  have s4 := s3.trans (e.2.mono s3.size (fun _ _ h => h))
  exact s4.trans (z.2.mono s4.size (fun _ _ h => h))
theorem RndAt.bgn {w : World} {B g ga n : Nat} {f : Nat → Bool} {r : Rnd} {pv lv : Value} (h : RndAt w B g ga n f r pv lv) (s : Int) : RndAt (w.setCell ⟨g, 26, none⟩ (.int .i64 s)) B g ga n f { r with begun := s } pv lv ∧ Fr w.heap.size (fun k => k = g) w (w.setCell ⟨g, 26, none⟩ (.int .i64 s)) := by
  have hF : Fr w.heap.size (fun k => k = g) w (w.setCell ⟨g, 26, none⟩ (.int .i64 s)) := (Fr.refl w.heap.size (fun k => k = g) w).setCell (p := ⟨g, 26, none⟩) (.inl rfl) _
  have h1 := h.hga
  have h2 := h.hg
  have h3 := h.hB
  refine ⟨⟨h.hg, h.hga, h.ne, Nat.le_trans h.hB hF.size, h.row.set_ 26 _, h.ans.far (p := ⟨g, 26, none⟩) h.ne.symm _, ?_, (h.led.fr hF (Nat.le_refl _) (fun k q1 _ he => by omega)).wider (Nat.le_refl _) hF.size, h.sz⟩, hF⟩
  obtain ⟨p0, q1, q2, q3⟩ := h.parts
  exact ⟨p0, q1, q2, q3.fr hF (by omega) (fun k _ hk he => by omega)⟩

set_option maxRecDepth 100000 in
set_option maxHeartbeats 1600000 in
theorem begin_good (w : World) (B g ga n : Nat) (f : Nat → Bool) (r : Rnd) (pv lv : Value) (h : RndAt w B g ga n f r pv lv) (br bn : Int) (a3 : Addr) (h3 : w.cell? ⟨3, 0, none⟩ = some (errv a3)) (hs : r.stage < 3) (hl : lg br bn = true) (ha : ab br bn r.br r.bn = true) (hn : 0 < n) :
    Calls Tryd.prog 55 #[.pointer (some ⟨g, 0, none⟩), .agg #[.int .i64 br, .int .i64 bn]] w fun e w' => e = .returned .nilIface ∧ RndAt w' B g ga n (fun _ => false) { r with br := br, bn := bn, stage := 1, nr := 0, nn := 0, led := [], begun := wrap64 (r.begun + 1) } pv (.slice none 0 0) ∧ Fr w.heap.size (fun k => k = g ∨ k = ga) w w' := by
  have bA : Below w.heap.size w (w.alloc (.cells #[.int .i64 br, .int .i64 bn] 23)) := (Below.refl _ _).alloc (Nat.le_refl _) _
  have c22 : (w.alloc (.cells #[.int .i64 br, .int .i64 bn] 23)).cell? ⟨g, 22, none⟩ = some (.int .i64 r.stage) := (h.below bA (Nat.le_refl _)).row.cell 22
  have k116 : ∀ W, Calls Tryd.prog 116 #[.agg #[.int .i64 br, .int .i64 bn]] W fun e w' => e = .returned (.bool true) ∧ Below W.heap.size W w' := fun W => by rw [← hl]; exact legal116_any br bn W
  have k23 : ∀ W, Calls Tryd.prog 23 #[.agg #[.int .i64 br, .int .i64 bn], .agg #[.int .i64 r.br, .int .i64 r.bn]] W fun e w' => e = .returned (.bool true) ∧ Below W.heap.size W w' := fun W => by rw [← ha]; exact above_any br bn r.br r.bn W
  have h03 := World.block_lt_of_cell? w _ h3
  have HB := Lib.hid (And.intro h3 h03)
  have hs' : ¬ r.stage ≥ 3 := by omega
  go_enter Tryd.func55, Tryd.ntmps55
  go_upto_region 3 with (fail)
  refine wp_letter (fun W => Below w.heap.size w W ∧ Blk W w.heap.size 23 #[.int .i64 br, .int .i64 bn]) ⟨bA, Blk.new w 23 _⟩ ?_
  rintro W ⟨hb, hX⟩
  obtain ⟨x, hx⟩ : ∃ x, x = w.heap.size := ⟨_, rfl⟩
  rw [← hx] at hX ⊢
  have HX := Lib.hid (And.intro hx h.hB)
  have cX : ∀ d os i, (Go.Sort.grow (redrawn W d) os).cell? ⟨x, i, none⟩ = (#[.int .i64 br, .int .i64 bn] : Array Value)[i]? := fun d os => (hX.below (below_regrown W d os) hX.lt).cell
  have hR := h.below hb (Nat.le_refl _)
  have c20 : ∀ d os, (Go.Sort.grow (redrawn W d) os).cell? ⟨g, 20, none⟩ = some (.int .i64 r.br) := fun d os => (hR.below (below_regrown W d os) (Nat.le_refl _)).row.cell 20
  have c21 : ∀ d os, (Go.Sort.grow (redrawn W d) os).cell? ⟨g, 21, none⟩ = some (.int .i64 r.bn) := fun d os => (hR.below (below_regrown W d os) (Nat.le_refl _)).row.cell 21
  have HW := Lib.hid (And.intro hb (And.intro hR (And.intro hX hn)))
  clear h hR h3 bA hX h03 hl ha hb hx c22
  try simp only [List.cons_append, List.nil_append, List.append_eq]
  refine wp_region_quiet_cheap (by kernel_rfl) (by kernel_rfl) (by kernel_rfl) (by kernel_rfl) ?_
  repeat (go_big_quiet_step (first | (with_reducible exact Calls.regrown_of (k116 _)) | (with_reducible exact Calls.regrown_of (k23 _))))
  refine wpQuiet_nil ?_
  intro _ hw'
  obtain ⟨⟨dq, osq⟩, hw''⟩ := hw'
  subst hw''
  have hgq := below_regrown W dq osq
  have R1 := HW.out.2.1.below hgq (Nat.le_refl _)
  have X1 := HW.out.2.2.1.below hgq HW.out.2.2.1.lt
  have F1 : Below w.heap.size w (Go.Sort.grow (redrawn W dq) osq) := HW.out.1.trans (hgq.mono HW.out.1.size)
  have c0 : (Go.Sort.grow (redrawn W dq) osq).cell? ⟨g, 0, none⟩ = some (.slice (some ⟨ga, 0, none⟩) n n) := R1.row.cell 0
  obtain ⟨W2, hcl, R2, F2⟩ := clear_bools R1 HW.out.2.2.2
  have hxg : x ≠ ga := by have := HW.out.2.1.hga; have := X1.lt; have h1 := HX.out.1; have h2 := HX.out.2; have := R1.hga; omega
  have X2 := X1.fr F2 X1.lt hxg
  have xc := X2.cell
  have rc := R2.row.cell
  have rf := R2.row.frozen
  simp only [Rnd.cells] at rc
  have H2 := Lib.hid (And.intro R2 (And.intro F1 F2))
  clear hgq R1 X1 F1 R2 F2 X2 cX c20 c21
  go_upto_region 7 with (fail)
  refine wp_letter (fun W3 => RndAt W3 B g ga n (fun _ => false) { r with br := br, bn := bn, stage := 1, nr := 0, nn := 0, led := [] } pv (.slice none 0 0) ∧ Fr W2.heap.size (fun k => k = g) W2 W3) (H2.out.1.began br bn) ?_
  clear rc rf xc c0
  rintro W3 ⟨R3, F3⟩
  have c26 : W3.cell? ⟨g, 26, none⟩ = some (.int .i64 r.begun) := R3.row.cell 26
  have f26 := R3.row.frozen 26
  have H3 := Lib.hid (And.intro R3 F3)
  clear R3 F3
  go_wp2_with (fail)
  go_ret
  have hb := H3.out.1.bgn (wrap64 (r.begun + 1))
  have F12 : Fr w.heap.size (fun k => k = g ∨ k = ga) w W2 := (Fr.of_below H2.out.2.1 _).trans (H2.out.2.2.mono H2.out.2.1.size (fun _ _ h => .inr h))
  have F23 : Fr w.heap.size (fun k => k = g ∨ k = ga) W2 W3 := H3.out.2.mono F12.size (fun _ _ h => .inl h)
  have F13 := F12.trans F23
  refine ⟨rfl, ?_, ?_⟩
  · exact hb.1
  · have := F13.trans (hb.2.mono F13.size (S' := fun k => k = g ∨ k = ga) (fun _ _ h => .inl h))
    exact this
end Go.Proofs.YtnlncfjibbdimaaDoor
