/-
  BallotRises: the walk.
-/
import Derived.Test.YtnlncfjibbdimaaDoorRise
import Derived.Test.YtnlncfjibbdimaaDoorOpen2
import Derived.Deep.DeepCutAuto
import Derived.Deep.CutBlock
import Derived.Lib.QuietBelow
namespace Go.Proofs.YtnlncfjibbdimaaDoor
open Go.RowKit
set_option linter.unusedSimpArgs false
set_option linter.unusedVariables false

/-- Element i of a script, in the form that the walk's load asks. -/
theorem ScriptAt.range {w : World} {A : Option Addr} {n cap : Nat} {os : List OpR} (h : ScriptAt w (.slice A n cap) os) {i : Nat} {o : OpR} (ho : os[i]? = some o) :
    ∃ b k, A = some ⟨b, k, none⟩ ∧ b < w.heap.size ∧ w.rangeAt b (k + i * 5) o.cells ∧ o.ok w w.heap.size := by
  obtain ⟨A', cap', hv, _, _, hel⟩ := h
  have hA0 : A = A' := by injection hv
  subst hA0
  obtain ⟨ad, hA, hlt, hc, hok⟩ := hel i o ho
  obtain ⟨b, k, sp⟩ := ad
  have hsp : sp = none := by
    have h0 : 0 < os.length := by have := (List.getElem?_eq_some_iff.1 ho).1; omega
    obtain ⟨ad', hA', _, hc', _⟩ := hel 0 os[0] (List.getElem?_eq_getElem h0)
    obtain rfl : ad' = ⟨b, k, sp⟩ := by rw [hA] at hA'; exact (Option.some.inj hA').symm
    have h1 := hc' 0 (by omega)
    have h2 : (os[0]).cells[0]? = some (.int .i64 (os[0]).kind) := rfl
    rw [h2] at h1
    simpa [Addr.add] using World.cell?_spot h1
  subst hsp
  refine ⟨b, k, hA, hlt, fun j v hv => ?_, hok⟩
  have hj : j < 5 := (List.getElem?_eq_some_iff.1 hv).1
  have := hc j hj
  rw [Addr.add_mid] at this
  rw [← hv, ← this, Nat.add_assoc]

theorem op_info : (Tryd.prog.info? 61).map (·.size) = some 5 := by kernel_rfl
theorem op_oneCell (o : OpR) {w : World} {hi : Nat} (h : o.ok w hi) : o.cells.toArray.all (·.oneCell') = true := by
  obtain ⟨_, _, _, _, hl⟩ := h
  obtain ⟨C, c, hv, _⟩ := hl.form
  simp [OpR.cells, hv, Value.oneCell']

theorem rangeAt_below {w w' : World} {B b o : Nat} {cs : List Value} (h : w.rangeAt b o cs) (f : Below B w w') (hb : b < B) : w'.rangeAt b o cs :=
  rangeAt_fr h (Fr.of_below f (fun _ => False)) hb (fun h => h)

/-- What the loop of BallotRises keeps. -/
structure RiseAt (W wr : World) (node last : Int) (s : Acc) (B g a : Nat) : Prop where
  inv : RInv node last s
  acc : AccIn wr B g 156 s
  was : Blk wr a 23 #[.int .i64 s.pr, .int .i64 s.pn]
  had : Blk wr (a + 1) 23 #[.int .i64 s.ar, .int .i64 s.an]
  bel : Below W.heap.size W wr

/-- .. within a round, ahead of its questions: s0 what was, s what is. -/
structure RiseMid (W wr : World) (node last : Int) (s0 s : Acc) (B g a : Nat) : Prop where
  inv : RInv node last s
  rise : Rise s0 s
  acc : AccIn wr B g 156 s
  was : Blk wr a 23 #[.int .i64 s0.pr, .int .i64 s0.pn]
  had : Blk wr (a + 1) 23 #[.int .i64 s0.ar, .int .i64 s0.an]
  bel : Below W.heap.size W wr

theorem Acc.clm_pr (s : Acc) (r : Int) : (s.clm r).pr = s.pr := by unfold Acc.clm; split <;> rfl
theorem Acc.clm_pn (s : Acc) (r : Int) : (s.clm r).pn = s.pn := by unfold Acc.clm; split <;> rfl
theorem RiseAt.step {W W3 w4 : World} {node last last' : Int} {s s' : Acc} {B g a : Nat} (h : RiseAt W W3 node last s B g a) (f : Fr W3.heap.size (· = g) W3 w4) (hgW : W.heap.size ≤ g) (hga : g < a)
    (hacc : AccIn w4 B g 156 s') (hinv : RInv node last' s') (hr : Rise s s') : RiseMid W w4 node last' s s' B g a :=
  ⟨hinv, hr, hacc, h.was.fr f h.was.lt (by omega), h.had.fr f h.had.lt (by omega), h.bel.trans ((f.mono h.bel.size (S' := fun _ => False) (fun k h1 h2 => by omega)).below (fun _ _ h => h))⟩
theorem RiseMid.below {W W3 w4 : World} {node last : Int} {s s' : Acc} {B B' g a : Nat} (h : RiseMid W W3 node last s s' B g a) (f : Below B' W3 w4) (hB : W3.heap.size ≤ B') : RiseMid W w4 node last s s' B g a :=
  ⟨h.inv, h.rise, h.acc.below f hB, h.was.below f (Nat.lt_of_lt_of_le h.was.lt hB), h.had.below f (Nat.lt_of_lt_of_le h.had.lt hB), h.bel.trans (f.mono (Nat.le_trans h.bel.size hB))⟩

theorem RiseMid.done {W w : World} {node last : Int} {s s' : Acc} {B g a : Nat} (h : RiseMid W w node last s s' B g a) (hgW : W.heap.size ≤ g) (hga : g < a) (haB : a + 1 < B) :
    RiseAt W ((((w.setCell ⟨a, 0, none⟩ (.int .i64 s'.pr)).setCell ⟨a, 1, none⟩ (.int .i64 s'.pn)).setCell ⟨a + 1, 0, none⟩ (.int .i64 s'.ar)).setCell ⟨a + 1, 1, none⟩ (.int .i64 s'.an)).drew node last s' B g a := by
  have f : Fr w.heap.size (fun k => k = a ∨ k = a + 1) w ((((w.setCell ⟨a, 0, none⟩ (.int .i64 s'.pr)).setCell ⟨a, 1, none⟩ (.int .i64 s'.pn)).setCell ⟨a + 1, 0, none⟩ (.int .i64 s'.ar)).setCell ⟨a + 1, 1, none⟩ (.int .i64 s'.an)).drew :=
    (((((Fr.refl w.heap.size (fun k => k = a ∨ k = a + 1) w).setCell (p := ⟨a, 0, none⟩) (.inl (.inl rfl)) _).setCell (p := ⟨a, 1, none⟩) (.inl (.inl rfl)) _).setCell (p := ⟨a + 1, 0, none⟩) (.inl (.inr rfl)) _).setCell (p := ⟨a + 1, 1, none⟩) (.inl (.inr rfl)) _).drew
  refine ⟨h.inv, h.acc.fr f (Nat.le_refl _) (by omega) (fun k h1 h2 => by omega), ?_, ?_, ?_⟩
  · exact ((((h.was.set_ 0 (.int .i64 s'.pr)).set_ 1 (.int .i64 s'.pn)).far (p := ⟨a + 1, 0, none⟩) (by simp) _).far (p := ⟨a + 1, 1, none⟩) (by simp) _).drew
  · exact ((((h.had.far (p := ⟨a, 0, none⟩) (by simp) _).far (p := ⟨a, 1, none⟩) (by simp) _).set_ 0 (.int .i64 s'.ar)).set_ 1 (.int .i64 s'.an)).drew
  · exact h.bel.trans ((f.mono h.bel.size (S' := fun _ => False) (fun k h1 h2 => by omega)).below (fun _ _ h => h))

set_option maxRecDepth 100000 in
set_option maxHeartbeats 3200000 in
theorem rises_any (node : Int) (v : Value) (os : List OpR) (W : World) (A : Nat → Addr) (h0 : W.cell? ⟨0, 0, none⟩ = some (errv (A 0))) (h3 : W.cell? ⟨3, 0, none⟩ = some (errv (A 3))) (h4 : W.cell? ⟨4, 0, none⟩ = some (errv (A 4))) (hS : ScriptAt W v os) :
    Calls Tryd.prog 6 #[.int .i64 node, v] W fun e W' => e = .returned (.bool true) ∧ Below W.heap.size W W' := by
  have h00 := World.block_lt_of_cell? W _ h0
  have h03 := World.block_lt_of_cell? W _ h3
  have h04 := World.block_lt_of_cell? W _ h4
  simp only at h00 h03 h04
  have hS' := hS
  obtain ⟨D, c, rfl, hlc, hcm, _⟩ := hS'
  obtain ⟨n, hn⟩ : ∃ n, n = os.length := ⟨_, rfl⟩
  rw [← hn] at hS hlc ⊢
  have hn63 : n ≤ 9223372036854775807 := by simp only [maxLen] at hcm; omega
  have HN := Lib.hid hn
  clear hn hlc hcm
  by_cases hnode : 0 ≤ node ∧ node < 16
  · obtain ⟨hn0, hn1⟩ := hnode
    go_enter Tryd.func6, Tryd.ntmps6
    go_wp2_with (fail)
    refine (alive9_any _ (A 3) h3).mono ?_
    rintro e w1 ⟨rfl, hb1⟩
    go_wp2_with (fail)
    refine (new_ok2 node _ hn0 hn1).mono ?_
    rintro e w2 ⟨g, rfl, hg, hB2, hb2⟩
    have hb := hb1.trans (hb2.mono hb1.size)
    have hgW : W.heap.size ≤ g := Nat.le_trans hb1.size hg
    clear hb1 hb2 hg
    go_wp2_with (fail)
    refine (promised_any g _ _ _ hB2).mono ?_
    rintro e w3 ⟨rfl, hb3⟩
    have hB3 := hB2.below hb3 hB2.lt
    have hbb := hb.trans (hb3.mono hb.size)
    clear hb hb3 hB2
    go_upto_block 0 with fail
    refine wp_letter (fun W2 => RiseAt W W2 node 0 (Acc.new node) (w3.heap.size + 1 + 1) g w3.heap.size)
      ⟨RInv.new_ _, ⟨by have := hB3.lt; omega, by simp, _, ?_, (OwnLed.nil_ _ _ _).at_⟩, ?_, ?_, ?_⟩ ?_
    · exact (hB3.alloc _).alloc _
    · exact (Blk.new w3 23 _).alloc _
    · exact Blk.new1 _ _ _ _
    · exact (hbb.alloc hbb.size _).alloc (by have := hbb.size; simp; omega) _
    rintro W2 hat
    have HA := Lib.hid hat
    have hs0 := hat.bel.size
    clear hat
    obtain ⟨B, hBB⟩ : ∃ B, B = w3.heap.size + 1 + 1 := ⟨_, rfl⟩
    obtain ⟨a, haa⟩ : ∃ a, a = w3.heap.size := ⟨_, rfl⟩
    have hgB : g < a := by have := hB3.lt; omega
    have haB : a + 1 < B := by omega
    have haW : W.heap.size ≤ a := by omega
    rw [← hBB, ← haa] at HA
    rw [← haa]
    clear hB3 hbb hBB haa
    go_wp2_with fail
    go_loopw [7, 37] (fun l i wr => ∃ (k : Nat) (last : Int) (s : Acc), k ≤ n ∧ i = .int .i64 k ∧ l = .int .i64 last ∧ RiseAt W wr node last s B g a) (fun _ i _ => n - (intOf i).toNat)
    case atStart => exact ⟨0, 0, _, Nat.zero_le _, rfl, rfl, HA.out⟩
    case round =>
      obtain ⟨k, last, s, hk, rfl, rfl, hat⟩ := hrel
      by_cases hlt : k < n
      · have hk1 : k < os.length := by rw [← HN.out]; exact hlt
        obtain ⟨o, ho⟩ : ∃ o, os[k]? = some o := ⟨_, List.getElem?_eq_getElem hk1⟩
        obtain ⟨b, q, rfl, hbW, hrg, hok⟩ := hS.range ho
        have hrange : wr.rangeAt b (q + k * 5) o.cells := rangeAt_below hrg hat.bel hbW
        clear hrg
        have hone := op_oneCell o hok
        go_upto_region 11 with (first
          | ((with_reducible refine law_load 61 (.tmp 39) b (q + k * 5) o.cells ?_ hrange Tryd.underlying61 ?_ ?_ ?_); rfl; rfl; exact op_info)
          | ((with_reducible refine law_store_fresh 61 (.tmp 11) (.tmp 40) wr 61 _ o.cells.toArray ?_ ?_ rfl ?_ ?_ hone ?_); rfl; rfl; exact op_info; rfl)
          | fail)
        refine wp_letter (fun W3 => RiseAt W W3 node last s B g a ∧ Blk W3 wr.heap.size 61 o.cells.toArray)
          ⟨⟨hat.inv, hat.acc.below ((Below.refl _ _).alloc (Nat.le_refl _) _) (Nat.le_refl _), hat.was.alloc _, hat.had.alloc _, hat.bel.alloc hat.bel.size _⟩, Blk.new _ _ _⟩ ?_
        rintro W3 ⟨hat3, hO⟩
        obtain ⟨x, hx⟩ : ∃ x, x = wr.heap.size := ⟨_, rfl⟩
        have hxB : B ≤ x := by rw [hx]; exact hat.acc.2.1
        rw [← hx] at hO ⊢
        clear hat hrange hone hx
        obtain ⟨kind, which, r, nn, lv, led⟩ := o
        have cO := hO.cell
        simp only [OpR.cells] at cO
        obtain ⟨_, _, _, _, hL⟩ := hok
        simp only at hL
        clear ho hS
        go_upto_block 2 with fail
        go_cut [7] (fun l wx => ∃ (last' : Int) (s' : Acc), l = .int .i64 last' ∧ RiseMid W wx node last' s s' B g a)
        case first =>
          have cg : W3.cell? ⟨0, 0, none⟩ = some (errv (A 0)) := (hat3.bel.cell h00).trans h0
          have cg3 : W3.cell? ⟨3, 0, none⟩ = some (errv (A 3)) := (hat3.bel.cell h03).trans h3
          have cg4 : W3.cell? ⟨4, 0, none⟩ = some (errv (A 4)) := (hat3.bel.cell h04).trans h4
          have hL3 : LedAt W3 0 W.heap.size lv led := hL.fr (Fr.of_below hat3.bel (fun _ => False)) (Nat.le_refl _) (fun _ _ _ h => h)
          by_cases k1 : kind = 1
          · subst k1
            go_wp2_with (fail)
            refine (prepare_in (A := A) hat3.acc cg cg3).mono ?_
            rintro e w4 ⟨C, kk, cc, rfl, f4, a4, _⟩
            have hp := hat3.inv.prep r nn
            go_wp2_with (fail)
            go_meet
            exact ⟨last, _, rfl, hat3.step f4 hgW hgB a4 hp.1 hp.2⟩
          · by_cases k2 : kind = 2
            · subst k2
              clear k1
              go_wp2_with (fail)
              refine (accept_in (A := A) hat3.acc cg cg3 hL3 hat3.bel.size (.inr hgW)).mono ?_
              rintro e w4 ⟨rfl, f4, a4⟩
              have hp := hat3.inv.take r nn led
              go_wp2_with (fail)
              go_meet
              exact ⟨last, _, rfl, hat3.step f4 hgW hgB a4 hp.1 hp.2⟩
            · by_cases k3 : kind = 3
              · subst k3
                clear k1 k2
                go_wp2_with (fail)
                refine (claim_in (A := A) hat3.acc hat3.inv.good cg4).mono ?_
                rintro e w4 ⟨he, f4, a4⟩
                obtain ⟨hp1, hp2, hp3⟩ := hat3.inv.clm r
                by_cases ht : s.top r < 1099511627776
                · obtain ⟨hp4, hp5, hp6⟩ := hp2 ht
                  rw [show s.clmR r = s.top r + 1 from if_pos ht, show s.clmN r = node from (if_pos ht).trans hat3.inv.nod, show errq A (s.clmQ r) = .nilIface by simp [errq, Acc.clmQ, ht]] at he
                  rw [hat3.inv.nod] at hp6
                  obtain ⟨T, hT⟩ : ∃ T, T = s.top r + 1 := ⟨_, rfl⟩
                  rw [← hT] at he hp4 hp5 hp6
                  have hm := hat3.step f4 hgW hgB a4 hp4 hp1
                  subst he
                  clear hT f4 a4 hp1 hp2 hp3 hp4 ht
                  go_upto_region 19 with (fail)
                  refine wp_letter (fun W5 => RiseMid W W5 node T s (s.clm r) B g a ∧ Blk W5 w4.heap.size 23 #[.int .i64 T, .int .i64 node])
                    ⟨hm.below ((Below.refl _ _).alloc (Nat.le_refl _) _) (Nat.le_refl _), Blk.new _ _ _⟩ ?_
                  rintro W5 ⟨hm5, hY⟩
                  clear hm cO hO hat3 cg cg3 cg4 hL3
                  obtain ⟨y, hy⟩ : ∃ y, y = w4.heap.size := ⟨_, rfl⟩
                  rw [← hy] at hY ⊢
                  clear hy
                  have kp : ∀ d os, Calls Tryd.prog 30 #[.pointer (some ⟨g, 0, none⟩)] (Go.Sort.grow (redrawn W5 d) os) fun e w' => e = .returned (.agg #[.int .i64 s.pr, .int .i64 s.pn]) ∧ Below (Go.Sort.grow (redrawn W5 d) os).heap.size (Go.Sort.grow (redrawn W5 d) os) w' := fun d os => by
                    obtain ⟨_, _, v, hb, _⟩ := hm5.acc
                    have := promised_any g _ v _ (hb.below (below_regrown W5 d os) hb.lt)
                    rw [Acc.clm_pr, Acc.clm_pn] at this
                    exact this
                  have cY : ∀ d os i, (Go.Sort.grow (redrawn W5 d) os).cell? ⟨y, i, none⟩ = (#[.int .i64 T, .int .i64 node] : Array Value)[i]? := fun d os => (hY.below (below_regrown W5 d os) hY.lt).cell
                  have hle : ¬ T ≤ last := by omega
                  refine wp_region_quiet_below (by kernel_rfl) (by kernel_rfl) ?_
                  repeat (go_big_quiet_step (first | exact Calls.regrown_of (kp _ _) | exact Calls.regrown_of (rabove_any _ _ _ _ _)))
                  refine wpQuiet_nil ?_
                  intro _ hw'
                  obtain ⟨⟨dq, osq⟩, hw''⟩ := hw'
                  subst hw''
                  go_wp2_with (fail)
                  go_meet
                  exact ⟨T, _, rfl, hm5.below (below_regrown _ _ _) (Nat.le_refl _)⟩
                · have hp4 := hp3 ht
                  rw [show errq A (s.clmQ r) = errv (A 4) by simp [errq, Acc.clmQ, ht]] at he
                  have hm := hat3.step f4 hgW hgB a4 hp4 hp1
                  obtain ⟨R, hR⟩ : ∃ R, R = s.clmR r := ⟨_, rfl⟩
                  obtain ⟨N, hN⟩ : ∃ N, N = s.clmN r := ⟨_, rfl⟩
                  rw [← hR, ← hN] at he
                  subst he
                  clear hR hN
                  go_wp2_with (fail)
                  go_meet
                  exact ⟨last, _, rfl, hm.below ((Below.refl _ _).alloc (Nat.le_refl _) _) (Nat.le_refl _)⟩
              · go_wp2_with (fail)
                go_meet
                exact ⟨last, s, rfl, hat3.inv, hat3.inv.stay, hat3.acc, hat3.was, hat3.had, hat3.bel⟩
        case rest =>
          obtain ⟨last', s', rfl, hmid⟩ := hcut
          clear hat3 cO hO
          go_wp2_with (fail)
          refine (promised_in hmid.acc).mono ?_
          rintro e w5 ⟨rfl, b5, a5⟩
          have hm5 := hmid.below b5 (Nat.le_refl _)
          clear hmid
          go_wp2_with (fail)
          refine (accepted_in (a5.below ((Below.refl _ _).alloc (Nat.le_refl _) _) (Nat.le_refl _))).mono ?_
          rintro e w6 ⟨C, kk, cc, rfl, b6, a6, _⟩
          have hX := (Blk.new w5 23 #[.int .i64 s'.pr, .int .i64 s'.pn]).below b6 (by simp)
          have hm6 := (hm5.below ((Below.refl _ _).alloc (Nat.le_refl _) _) (Nat.le_refl _)).below b6 (Nat.le_refl _)
          have hxx : B ≤ w5.heap.size := a5.2.1
          clear b5 a5 hm5 b6 a6
          go_upto_region 24 with (fail)
          refine wp_letter (fun W7 => RiseMid W W7 node last' s s' B g a ∧ Blk W7 w5.heap.size 23 #[.int .i64 s'.pr, .int .i64 s'.pn] ∧ Blk W7 w6.heap.size 23 #[.int .i64 s'.ar, .int .i64 s'.an] ∧ B ≤ w5.heap.size ∧ B ≤ w6.heap.size)
            ⟨hm6.below ((Below.refl _ _).alloc (Nat.le_refl _) _) (Nat.le_refl _), hX.alloc _, Blk.new _ _ _, hxx, hm6.acc.2.1⟩ ?_
          rintro W7 ⟨hm7, hX7, hY7, hx7, hy7⟩
          obtain ⟨x, hx⟩ : ∃ x, x = w5.heap.size := ⟨_, rfl⟩
          obtain ⟨y, hy⟩ : ∃ y, y = w6.heap.size := ⟨_, rfl⟩
          rw [← hx] at hX7 hx7
          rw [← hy] at hY7 hy7
          rw [← hx, ← hy]
          clear hx hy hm6 hX hxx
          obtain ⟨⟨hr1, hr2, hr3⟩, hp7⟩ : Rise s s' ∧ True := ⟨hm7.rise, trivial⟩
          have cP := hm7.was.cell
          have cH := hm7.had.cell
          have cX := hX7.cell
          have cY := hY7.cell
          go_upto_region 26 with (first
            | (go_at_call 24; refine (rabove_any _ _ _ _ _).mono ?_; rintro e wN ⟨rfl, hN⟩
               have cP := fun i => (hN.cell (p := ⟨a, i, none⟩) hm7.was.lt).trans (cP i)
               have cH := fun i => (hN.cell (p := ⟨a + 1, i, none⟩) hm7.had.lt).trans (cH i)
               have cX := fun i => (hN.cell (p := ⟨x, i, none⟩) hX7.lt).trans (cX i)
               have cY := fun i => (hN.cell (p := ⟨y, i, none⟩) hY7.lt).trans (cY i)
               have hX7 := hX7.below hN hX7.lt
               have hY7 := hY7.below hN hY7.lt
               have hm7 := hm7.below hN (Nat.le_refl _))
            | fail)
          have fP := hm7.was.frozen
          have fH := hm7.had.frozen
          have hdone := hm7.done hgW hgB haB
          have hinv := hm7.inv
          go_region
          go_wp2_with fail
          go_roundw
          case rel => exact ⟨k + 1, last', s', by omega, by go_num, rfl, hdone⟩
          case measure => simp [intOf]; omega
      · have hkn : k = n := by omega
        subst hkn
        have hbel := hat.bel
        go_wp2
        go_ret
        exact ⟨rfl, hbel⟩
  · by_cases hn0 : node < 0
    · go_enter Tryd.func6, Tryd.ntmps6
      go_wp2_with (fail)
      refine (alive9_any _ (A 3) h3).mono ?_
      rintro e w1 ⟨rfl, hb1⟩
      go_wp2_with (fail)
      refine (new_bad node (A 0) _ ((hb1.cell h00).trans h0) (.inl hn0)).mono ?_
      rintro e w2 ⟨rfl, hb2⟩
      go_wp2_with (fail)
      go_ret
      exact ⟨rfl, hb1.trans (hb2.mono hb1.size)⟩
    · have hn1 : node > 15 := by omega
      go_enter Tryd.func6, Tryd.ntmps6
      go_wp2_with (fail)
      refine (alive9_any _ (A 3) h3).mono ?_
      rintro e w1 ⟨rfl, hb1⟩
      go_wp2_with (fail)
      refine (new_bad node (A 0) _ ((hb1.cell h00).trans h0) (.inr (by omega))).mono ?_
      rintro e w2 ⟨rfl, hb2⟩
      go_wp2_with (fail)
      go_ret
      exact ⟨rfl, hb1.trans (hb2.mono hb1.size)⟩

end Go.Proofs.YtnlncfjibbdimaaDoor
