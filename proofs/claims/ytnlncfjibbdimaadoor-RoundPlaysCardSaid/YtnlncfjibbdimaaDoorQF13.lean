/-
  RoundPlays: all that a round tells is what the document's tells.
  RoundPlays: two rounds and the document's two in memory. No walk stands here.
  RoundPlays: the walk.
  RoundPlays: the walk, off the row's reading of its arguments.
-/
import Derived.Test.YtnlncfjibbdimaaDoorQC13
import Derived.Test.YtnlncfjibbdimaaDoorQD13
import Derived.Test.YtnlncfjibbdimaaDoorSpoil
import Derived.Deep.CutBlock
import Derived.Deep.DeepCutAuto
import Derived.TacticsInMore
import Derived.LoopNIn
import Derived.LoopIn
import Derived.RangeFuncBound
import Derived.RangeFuncCalls
import Derived.Test.YtnlncfjibbdimaaDoorQE13
import Derived.Laws.BitsLemmas
import Derived.Test.YtnlncfjibbdimaaDoorArgs
import Derived.Test.YtnlncfjibbdimaaDoorOpen2
import Derived.Test.YtnlncfjibbdimaaDoorFrame
import Derived.Test.YtnlncfjibbdimaaDoorLift
namespace Go.Proofs.YtnlncfjibbdimaaDoor
open Go.RowKit
set_option linter.unusedSimpArgs false
set_option linter.unusedVariables false
attribute [local go_sem] Oper.semAt_some

theorem LedP.tells {w : World} {M : Nat → Prop} {r : Rnd} {lv : Value} (h : LedP w M lv r.led) : LedP w M (if toldB r.stage = true then lv else .slice none 0 0) r.tells := by
  unfold Rnd.tells
  split
  · exact h
  · exact LedP.nil_ _ _

set_option maxRecDepth 100000 in
set_option maxHeartbeats 12800000 in
theorem asks_any (w : World) {M M2 : Nat → Prop} {B g ga gm n : Nat} {f : Nat → Bool} {hs : List Int} {r : Rnd} {pv lv pv2 dv lv2 : Value} (hR : RndF w M B g ga n f r pv lv) (hM : MAt w M2 gm n hs r pv2 dv lv2) (hT : Tied n f hs) (a10 : Addr) (h10 : w.cell? ⟨10, 0, none⟩ = some (errv a10)) :
    Calls Tryd.prog 66 #[.pointer (some ⟨g, 0, none⟩), .pointer (some ⟨gm, 0, none⟩)] w (YesNo true w) := by
  have h10l := World.block_lt_of_cell? w _ h10
  simp only at h10l
  have k126 := rledger126 w M2 gm n hs r pv2 dv lv2 hM
  have hLT := hM.led.tells
  unfold RLedPost at k126
  obtain ⟨tv, htv⟩ : ∃ tv, tv = (if toldB r.stage = true then lv2 else .slice none 0 0) := ⟨_, rfl⟩
  rw [← htv] at k126 hLT
  obtain ⟨n3, hn3⟩ : ∃ n3, n3 = r.tells.length := ⟨_, rfl⟩
  obtain ⟨A3, c3, htv3, _⟩ := hLT.at_.form
  rw [← hn3] at htv3
  subst htv3
  obtain ⟨pl, hpl⟩ : ∃ pl, pl = r.place := ⟨_, rfl⟩
  rw [← hpl] at k126
  have hn16 := hR.sz
  have H0 := Lib.hid (And.intro hR (And.intro hM (And.intro hT (And.intro h10 (And.intro h10l (And.intro hLT (And.intro hn3 (And.intro hpl k126))))))))
  clear hR hM hT h10 h10l hLT htv hn3 hpl k126
  refine callsIn_wide.1 (callsIn_of_wp_marks (n := 5) Tryd.func66 rfl trivial (wpIn_wide.2 ?_) rfl)
  simp only [Tryd.ntmps66, List.size_toArray, List.length_cons, List.length_nil, Nat.reduceAdd, Nat.reduceSub, Array.replicate_succ, Array.replicate_zero, List.push_toArray, List.append_toArray, List.nil_append, List.cons_append]
  go_upto_region 3 with (first
    | (go_at_call 126
       refine H0.out.2.2.2.2.2.2.2.2.mono ?_
       rintro e w1 ⟨rfl, b1⟩
       have H1 := Lib.hid b1
       clear b1)
    | (go_at_call 60
       refine (H0.out.1.below H1.out).ledger.mono ?_
       rintro e w2 ⟨v2, rfl, o2, b2⟩
       obtain ⟨A4, c4, hv4, _⟩ := o2.at_.form
       rw [← H0.out.2.2.2.2.2.2.1] at hv4
       subst hv4
       have H2 := Lib.hid (And.intro o2 b2)
       clear o2 b2)
    | fail)
  have b02 : Below w.heap.size w w2 := H1.out.trans (H2.out.2.mono H1.out.size)
  have R2 := H0.out.1.below b02
  have M2' := H0.out.2.1.below b02
  have hbr : ∀ d os, Below w2.heap.size w2 (Go.Sort.grow (redrawn w2 d) os) := fun d os => below_regrown w2 d os
  have c22 : ∀ d os, (Go.Sort.grow (redrawn w2 d) os).cell? ⟨gm, 22, none⟩ = some (.int .i64 r.stage) := fun d os => (M2'.row.below (hbr d os) M2'.row.lt).cell 22
  have c20 : ∀ d os, (Go.Sort.grow (redrawn w2 d) os).cell? ⟨gm, 20, none⟩ = some (.int .i64 r.br) := fun d os => (M2'.row.below (hbr d os) M2'.row.lt).cell 20
  have c21 : ∀ d os, (Go.Sort.grow (redrawn w2 d) os).cell? ⟨gm, 21, none⟩ = some (.int .i64 r.bn) := fun d os => (M2'.row.below (hbr d os) M2'.row.lt).cell 21
  have c27 : ∀ d os, (Go.Sort.grow (redrawn w2 d) os).cell? ⟨gm, 27, none⟩ = some (.int .i64 r.begun) := fun d os => (M2'.row.below (hbr d os) M2'.row.lt).cell 27
  have k56 : ∀ d os, Calls Tryd.prog 56 #[.pointer (some ⟨g, 0, none⟩)] (Go.Sort.grow (redrawn w2 d) os) fun e w' => e = .returned (.int .i64 r.stage) ∧ Below (Go.Sort.grow (redrawn w2 d) os).heap.size (Go.Sort.grow (redrawn w2 d) os) w' := fun d os => (R2.below (hbr d os)).stage
  have k127 : ∀ d os, Calls Tryd.prog 127 #[.pointer (some ⟨g, 0, none⟩)] (Go.Sort.grow (redrawn w2 d) os) fun e w' => e = .returned (.agg #[.int .i64 r.br, .int .i64 r.bn]) ∧ Below (Go.Sort.grow (redrawn w2 d) os).heap.size (Go.Sort.grow (redrawn w2 d) os) w' := fun d os => ballot127 _ _ _ _ _ _ _ _ _ (R2.below (hbr d os)).at_
  have k128 : ∀ d os, Calls Tryd.prog 128 #[.pointer (some ⟨g, 0, none⟩)] (Go.Sort.grow (redrawn w2 d) os) fun e w' => e = .returned (.int .i64 r.begun) ∧ Below (Go.Sort.grow (redrawn w2 d) os).heap.size (Go.Sort.grow (redrawn w2 d) os) w' := fun d os => begun128 _ _ _ _ _ _ _ _ _ (R2.below (hbr d os)).at_
  have k61 : ∀ d os, Calls Tryd.prog 61 #[.pointer (some ⟨g, 0, none⟩)] (Go.Sort.grow (redrawn w2 d) os) fun e w' => e = .returned (.int .i64 pl) ∧ Below (Go.Sort.grow (redrawn w2 d) os).heap.size (Go.Sort.grow (redrawn w2 d) os) w' := fun d os => by
    rw [H0.out.2.2.2.2.2.2.2.1]
    exact (R2.below (hbr d os)).place a10 (((b02.trans ((hbr d os).mono b02.size)).cell (p := ⟨10, 0, none⟩) H0.out.2.2.2.2.1).trans H0.out.2.2.2.1)
  have k59 : ∀ d os, Calls Tryd.prog 59 #[.slice A4 n3 c4, .slice A3 n3 c3] (Go.Sort.grow (redrawn w2 d) os) fun e w' => e = .returned (.bool true) ∧ Below (Go.Sort.grow (redrawn w2 d) os).heap.size (Go.Sort.grow (redrawn w2 d) os) w' := fun d os => by
    have hb := hbr d os
    have := same_any (Go.Sort.grow (redrawn w2 d) os) _ _ _ _ _ _ r.tells r.tells (H2.out.1.fr (Fr.of_below hb (fun _ => False)) (Nat.le_refl _) (fun _ _ _ h => h)).at_ ((H0.out.2.2.2.2.2.1.fr (Fr.of_below (b02.trans (hb.mono b02.size)) (fun _ => False)) (Nat.le_refl _) (fun _ h => h.elim)).at_) hb.size (Nat.le_refl _)
    rw [tf_iff.2 (rfl : r.tells = r.tells)] at this
    exact this
  have hq' : ∀ w, (binOp .eql 23 (.agg #[.int .i64 r.br, .int .i64 r.bn]) (.agg #[.int .i64 r.br, .int .i64 r.bn])).run Tryd.prog w = .ok (.bool true) w := fun w => by rw [eqb23]; simp
  have HB := Lib.hid b02
  clear b02 R2 M2' hbr
  try simp only [List.cons_append, List.nil_append, List.append_eq]
  refine wp_region_quiet_cheap (by kernel_rfl) (by kernel_rfl) (by kernel_rfl) (by kernel_rfl) ?_
  repeat (go_big_quiet_step (first | (with_reducible exact Calls.regrown_of (k56 _ _)) | (with_reducible exact Calls.regrown_of (k127 _ _)) | (with_reducible exact Calls.regrown_of (k128 _ _)) | (with_reducible exact Calls.regrown_of (k61 _ _)) | (with_reducible exact Calls.regrown_of (k59 _ _))))
  refine wpQuiet_nil ?_
  intro _ hw'
  obtain ⟨⟨dq, osq⟩, hw''⟩ := hw'
  subst hw''
  clear c20 c21 c22 c27 k56 k127 k128 k61 k59 hq'
  obtain ⟨w3, hw3⟩ : ∃ w3, w3 = Go.Sort.grow (redrawn w2 dq) osq := ⟨_, rfl⟩
  have b3 : Below w2.heap.size w2 w3 := by rw [hw3]; exact below_regrown w2 dq osq
  rw [← hw3]
  clear hw3
  have o3 := H2.out.1.fr (Fr.of_below b3 (fun _ => False)) (Nat.le_refl _) (fun _ _ _ h => h)
  obtain ⟨lo, hlo⟩ : ∃ lo, lo = w1.heap.size := ⟨_, rfl⟩
  obtain ⟨hi, hhi⟩ : ∃ hi, hi = w2.heap.size := ⟨_, rfl⟩
  rw [← hlo, ← hhi] at o3
  have hlow : w.heap.size ≤ lo := by rw [hlo]; exact H1.out.size
  have hhi3 : hi ≤ w3.heap.size := by rw [hhi]; exact b3.size
  have H3 := Lib.hid (And.intro (HB.out.trans (b3.mono HB.out.size)) (And.intro o3 (And.intro hlow hhi3)))
  clear b3 o3 hlo hhi hlow hhi3
  go_upto_block 0 with (fail)
  go_cut [] from 59 to 82 (fun wx => Fr w3.heap.size (fun k => lo ≤ k ∧ k < hi) w3 wx)
  case first =>
    rcases Nat.eq_zero_or_pos r.tells.length with h0 | h0
    · have hn0 : n3 = 0 := by rw [H0.out.2.2.2.2.2.2.1]; exact h0
      subst hn0
      go_wp2_with (fail)
      go_loopw [58] (fun i wr => i = .int .i64 0 ∧ Fr w3.heap.size (fun k => lo ≤ k ∧ k < hi) w3 wr) (fun _ _ => 0)
      case atStart => exact ⟨rfl, Fr.refl _ _ _⟩
      case round =>
        obtain ⟨rfl, hF⟩ := hrel
        go_wp2_with (fail)
        go_meet
        exact hF
    · obtain ⟨q, c, H, hv, hlo, hhi, hsp⟩ := H3.out.2.1.sp h0
      have hA4 : A4 = some ⟨q, 0, none⟩ := by injection hv
      subst hA4
      obtain ⟨_, _, hv', _, hc1, hc2⟩ := H3.out.2.1.at_.form
      have hn63 : n3 ≤ 9223372036854775807 := by rw [H0.out.2.2.2.2.2.2.1]; omega
      clear hv hv' hc1 hc2
      have HN := Lib.hid H0.out.2.2.2.2.2.2.1
      go_wp2_with (fail)
      go_loopw [58] (fun i wr => ∃ k : Nat, k ≤ n3 ∧ i = .int .i64 k ∧ SpAt wr lo hi q H r.tells ∧ Fr w3.heap.size (fun k => lo ≤ k ∧ k < hi) w3 wr) (fun i _ => n3 - (intOf i).toNat)
      case atStart => exact ⟨0, Nat.zero_le _, rfl, hsp, Fr.refl _ _ _⟩
      case round =>
        obtain ⟨k, hk, rfl, hs, hF⟩ := hrel
        by_cases hlt : k < n3
        · have hk1 : k < r.tells.length := by rw [← HN.out]; exact hlt
          obtain ⟨cs, hB, hq⟩ := hs
          obtain ⟨q1, q2, q3, q4, q5⟩ := hq k _ (List.getElem?_eq_getElem hk1)
          have HS : SpAt wr lo hi q H r.tells := ⟨cs, hB, hq⟩
          clear hq
          obtain ⟨m, hm⟩ : ∃ m, m = r.tells[k].parts.length := ⟨_, rfl⟩
          rw [← hm] at q2 q3 q5
          obtain ⟨A, hA⟩ : ∃ A, A = (H k).1 := ⟨_, rfl⟩
          obtain ⟨cc, hcc⟩ : ∃ cc, cc = (H k).2 := ⟨_, rfl⟩
          rw [← hA] at q2 q5
          rw [← hcc] at q2 q3 q4
          have c15 : wr.cell? ⟨q, k * 18 + 15, none⟩ = some (.slice A m cc) := (hB.cell _).trans q2
          have hm63 : m ≤ 9223372036854775807 := by simp only [maxLen] at q4; omega
          have HM := Lib.hid hm
          have HA := Lib.hid hA
          clear hm hA hcc q2 q5 q3 q4 hB
          obtain ⟨wo, hwo⟩ : ∃ wo : World, wo = wr := ⟨_, rfl⟩
          rw [← hwo] at HS hF c15 ⊢
          clear hwo
          go_wp2_with (fail)
          go_loopw [67] (fun i wi => ∃ j : Nat, j ≤ m ∧ i = .int .i64 j ∧ wi.cell? ⟨q, k * 18 + 15, none⟩ = some (.slice A m cc) ∧ SpAt wi lo hi q H r.tells ∧ Fr w3.heap.size (fun k => lo ≤ k ∧ k < hi) w3 wi) (fun i _ => m - (intOf i).toNat)
          case atStart => exact ⟨0, Nat.zero_le _, rfl, c15, HS, hF⟩
          case round =>
            obtain ⟨j, hj, rfl, c15', hs', hF'⟩ := hrel
            by_cases hjm : j < m
            · obtain ⟨cs', hB', hq'⟩ := hs'
              obtain ⟨p1, p2, p3, p4, p5⟩ := hq' k _ (List.getElem?_eq_getElem hk1)
              have HS' : SpAt wr lo hi q H r.tells := ⟨cs', hB', hq'⟩
              clear hq' p1 p2 p3 p4
              obtain ⟨g', ds, e1, e2, e3, e4, e5⟩ := p5 (by rw [← HM.out]; omega)
              rw [← HA.out] at e1
              subst e1
              have hg' := e4.lt
              have hne : ¬ q = g' := hB'.ne_type e4 (by decide)
              have hds : j < ds.size := by rw [← HM.out] at e5; omega
              have cj : wr.cell? ⟨g', j, none⟩ = some ds[j] := (e4.cell j).trans (Array.getElem?_eq_getElem hds)
              have fj := e4.frozen j
              clear hB' p5 e5 c15
              have e4t := HS'.set_part (j := j) e4 (.int .i64 (-3))
              have hFt := hF'.setCell (p := ⟨g', j, none⟩) (.inl ⟨e2, e3⟩) (.int .i64 (-3))
              have ct : (wr.setCell ⟨g', j, none⟩ (.int .i64 (-3))).cell? ⟨q, k * 18 + 15, none⟩ = some (.slice (some ⟨g', 0, none⟩) m cc) := (((Fr.refl wr.heap.size (· = g') wr).setCell (p := ⟨g', j, none⟩) (.inl rfl) (.int .i64 (-3))).cell (p := ⟨q, k * 18 + 15, none⟩) (World.block_lt_of_cell? wr _ c15') hne).trans c15'
              have CT := Lib.hid (And.intro ct (And.intro e4t hFt))
              clear ct e4t hFt
              go_wp2_with (fail)
              go_roundw
              case rel => exact ⟨j + 1, by omega, by go_num, CT.out.1, CT.out.2.1, CT.out.2.2⟩
              case measure => simp [intOf]; omega
            · have hjm' : j = m := by omega
              subst hjm'
              obtain ⟨cs', hB', hq'⟩ := hs'
              obtain ⟨p1, _⟩ := hq' k _ (List.getElem?_eq_getElem hk1)
              have HS' : SpAt wr lo hi q H r.tells := ⟨cs', hB', hq'⟩
              have c0 : wr.cell? ⟨q, k * 18, none⟩ = some cs'[k * 18] := (hB'.cell _).trans (Array.getElem?_eq_getElem (by omega))
              have f0 := hB'.frozen (k * 18)
              clear hq' hB'
              go_wp2_with (fail)
              go_roundw
              case rel => exact ⟨k + 1, by omega, by go_num, HS'.set_kind k _, hF'.setCell (p := ⟨q, k * 18, none⟩) (.inl ⟨hlo, hhi⟩) _⟩
              case measure => simp [intOf]; omega
        · have hkn : k = n3 := by omega
          subst hkn
          go_wp2_with (fail)
          go_meet
          exact hF
  case rest =>
    have bW : Below w.heap.size w wc := H3.out.1.trans ((hcut.mono H3.out.1.size (S' := fun _ => False) (fun k h1 h2 => by have := H3.out.2.2.1; omega)).below (fun _ _ h => h))
    have RW := H0.out.1.below bW
    have MW := H0.out.2.1.below bW
    obtain ⟨i0, hi0, hz0, hz1, hz2⟩ := info_parts int_info
    have HW := Lib.hid (And.intro bW (And.intro RW (And.intro MW H0.out.2.2.1)))
    clear bW RW MW hcut H0 H1 H2 H3 HB
    go_upto_region 15 with (fail)
    refine wp_letter (fun W => Below wc.heap.size wc W ∧ Boxed W (wc.heap.size + 1) 40 (.slice (some ⟨wc.heap.size, 0, none⟩) 0 0) ∧ W.ownsRow wc.heap.size 3 1 (.slice (some ⟨wc.heap.size, 0, none⟩) 0 0) 0 [])
      ⟨((Below.refl _ _).alloc (Nat.le_refl _) _).alloc (by simp) _, by have := Boxed.new (wc.alloc (.cells #[] 3)) 40 (.slice (some ⟨wc.heap.size, 0, none⟩) 0 0); rw [World.size_alloc] at this; exact this, (World.ownsRow_made wc #[] 0 (Nat.le_refl _) (by simp [maxLen]) (by simp)).alloc _⟩ ?_
    rintro W4 ⟨b4, hX4, hrow4⟩
    obtain ⟨N, hN⟩ : ∃ N, N = wc.heap.size := ⟨_, rfl⟩
    obtain ⟨Bx, hBx⟩ : ∃ Bx, Bx = wc.heap.size + 1 := ⟨_, rfl⟩
    rw [← hBx, ← hN] at hX4
    rw [← hN] at hrow4
    rw [← hBx, ← hN]
    obtain ⟨zs, hzs⟩ : ∃ zs, zs = missL r.stage f n := ⟨_, rfl⟩
    have hzl : zs.length ≤ 16 := by rw [hzs]; exact Nat.le_trans (missL_len _ _ _) hn16
    have k129 := missing_any W4 _ _ _ _ _ _ _ _ ((HW.out.2.1.below b4).at_)
    rw [← hzs] at k129
    have hNB : N ≤ W4.heap.size := by rw [hN]; exact b4.size
    have H4 := Lib.hid (And.intro b4 (And.intro hX4 (And.intro hrow4 (And.intro hN (And.intro hBx (And.intro hzs k129))))))
    clear b4 hX4 hrow4 hN hBx hzs k129
    go_wp2_with (first
      | (go_at_call 129
         refine H4.out.2.2.2.2.2.2.mono ?_
         rintro e w5 ⟨Bs, b, sv, rfl, hBs1, hBs2, hb1, hb2, hc5, hI5, b5⟩)
      | fail)
    have hX5 : Boxed w5 Bx 40 (.slice (some ⟨N, 0, none⟩) 0 0) := by
      have h := H4.out.2.1
      exact (b5.block Bx h.lt).trans h
    have hrow5 := ownsRow_frK H4.out.2.2.1 (Fr.of_below b5 (fun _ => False)) (Nat.le_refl _) (fun _ _ h => h)
    have hN5 : N ≤ w5.heap.size := Nat.le_trans hNB b5.size
    have hBxN : N ≤ Bx := by have := H4.out.2.2.2.1; have := H4.out.2.2.2.2.1; omega
    have hbB : b ≠ Bx := by have := H4.out.2.1.lt; omega
    have H5 := Lib.hid (And.intro b5 (And.intro hX5 hrow5))
    clear b5 hX5 hrow5
    refine (wpIn_wide (n := 5)).1 ?_
    refine wpIn_rangeFunc_ownG (F := Fence.wide) (n := 5) rfl (by omega) (gf := 170) (lb := #[.pointer (some ⟨Bs, 0, none⟩)]) rfl trivial (enters_of Tryd.func170 (by kernel_rfl) rfl)
      (vals_stops Fence.wide 4 trivial rfl (by omega) Bs b sv zs (by omega) w5 hBs2 hb2 hc5 hI5) (fun h k => Kb.tr h k) (kb_b hb2) (Below.refl _ _) (fun _ => rfl)
      (fun pre W => (∃ v, Boxed W Bx 40 v ∧ W.ownsRow N 3 1 v pre.length (ints pre) ∧ ∀ q, v.ownBlock = some q → q ≠ b) ∧ Below N w5 W ∧ w5.heap.size ≤ W.heap.size)
      (fun _ _ _ => False)
      (OwnFrom.and (Own.from (holds_own N Bx b 40 3 1 (fun pre => pre.length) (fun pre => ints pre)) _) (OwnFrom.and (ownFrom_below hN5 hN5) (fun _ X Y row hs hg _ => Nat.le_trans hs hg.size)))
      (fun _ _ _ _ _ hs _ _ => hs)
      ⟨⟨_, H5.out.2.1, H5.out.2.2, fun q hq => by simp [Value.ownBlock] at hq; have := H4.out.2.1.lt; have := H4.out.2.2.2.1; have := H4.out.2.2.2.2.1; omega⟩, Below.refl _ _, Nat.le_refl _⟩
      ?a1 ?assign ?body ?done ?stop
    case assign =>
      intro l x W K hK
      gi_wp2
      exact hK
    case body =>
      rintro l pre x W ⟨⟨v, hv, hrow, hvb⟩, hB, hsz⟩ hlt
      have hc := hv.cell
      have hWN : N ≤ W.heap.size := Nat.le_trans hN5 hsz
      have hbW : b < W.heap.size := Nat.lt_of_lt_of_le hb2 hsz
      gi_wp2_with (gi_at_builtin; refine wpListIn_append_any _ rfl _ _ 40 rfl N 3 i0 _ 1 8 Tryd.underlying40 hi0 hz0 hz1 hz2 rfl (by omega) v pre.length (ints pre) rfl (hrow.alloc _) 0 (W.heap.size + 1) (some ⟨W.heap.size, 0, none⟩) 1 1 [.int .i64 x] rfl ⟨rfl, fun _ => ⟨_, rfl, Nat.zero_le _, Nat.lt_succ_self _, fun j u hu => by
        rw [Addr.add_mid]
        exact (Blk.new W 3 #[.int .i64 x]).range (cs := [.int .i64 x]) j u hu⟩⟩ (by simp [Value.oneCell']) (by simp only [maxLen]; omega) (by omega) (by simp; omega) ?_; intro v' w1 hown' hgrow hat; obtain ⟨g', cap', rfl⟩ := ownsRow_succ hown'; obtain ⟨hv1, hv2, hr2, hk2, hb2', hkb, hvb'⟩ := Boxed.collected hv (by decide) hrow hWN hBxN hown' hgrow hat hbW hbB hvb; have hc1 := hv1.cell; have hf1 := hv1.frozen)
      have e3 : ints (pre ++ [x]) = ints pre ++ [.int .i64 x] := by simp [ints]
      exact ⟨hk2.from _, hkb, ⟨_, hv2, by rw [e3, List.length_append]; exact hr2, hvb'⟩, hB.trans hb2', Nat.le_trans hsz hb2'.size⟩
    case done =>
      rintro D ys W hD rfl ⟨⟨v, hv, hrow, hvb⟩, hB, hsz⟩ hK
      obtain ⟨A7, c7, hv7, _⟩ := (show OwnRow W N W.heap.size 3 1 v ys.length (ints ys) from ⟨hrow, fun g hg => (hrow.lt g hg).2⟩).form
      obtain ⟨m7, hm7⟩ : ∃ m7, m7 = ys.length := ⟨_, rfl⟩
      rw [← hm7] at hv7
      subst hv7
      have hOI : OwnInts W N W.heap.size (.slice A7 m7 c7) ys := ⟨⟨hrow, fun g hg => (hrow.lt g hg).2⟩, by omega⟩
      have bWW : Below w.heap.size w W := by
        have h1 : Below N wc w5 := by
          have := H4.out.1.trans (H5.out.1.mono H4.out.1.size)
          rw [← H4.out.2.2.2.1] at this
          exact this
        have h2 : Below N wc W := h1.trans hB
        exact HW.out.1.trans (h2.mono (by rw [H4.out.2.2.2.1]; exact HW.out.1.size))
      have MW2 : MAt W M2 gm n hs r pv2 dv lv2 := HW.out.2.2.1.below (by
        have h1 : Below N wc w5 := by
          have := H4.out.1.trans (H5.out.1.mono H4.out.1.size)
          rw [← H4.out.2.2.2.1] at this
          exact this
        have h2 := h1.trans hB
        rw [H4.out.2.2.2.1] at h2
        exact h2)
      have hfew := HW.out.2.2.2.few
      have hm := HW.out.2.2.2.miss r.stage
      rw [← H4.out.2.2.2.2.2.1] at hm
      have hcB := hv.cell
      have hBl := hv.lt
      have hDl : D < W.heap.size := (Array.getElem?_eq_some_iff.1 hK).1
      have hDw : w.heap.size ≤ D := by
        have h1 := HW.out.1.size
        have h2 := H4.out.1.size
        have h3 := H5.out.1.size
        omega
      have H7 := Lib.hid (And.intro hOI (And.intro bWW (And.intro MW2 (And.intro hfew (And.intro hm (And.intro hv (And.intro hK (And.intro hDl hDw))))))))
      clear hOI bWW MW2 hfew hm hrow hvb hB hK hm7 hv hDl hDw
      go_upto_region 18 with (fail)
      have hBr : Below W.heap.size W W.drew := (Below.refl W.heap.size W).drew
      go_region_held3 (fun w' => w'.cell? ⟨Bx, 0, none⟩ = some (.slice A7 m7 c7)) (go_keep)
        (first
          | (go_at_call 130
             refine (rmissing130 _ M2 gm n hs r pv2 dv lv2 (H7.out.2.2.1.below hBr) ((H7.out.2.2.1.below hBr).ints (by have := H7.out.2.2.2.1; omega))).mono ?_
             rintro e u1 ⟨v1, rfl, o1, d1⟩
             have hb1 := hBr.trans (d1.mono hBr.size)
             have cB1 : u1.cell? ⟨Bx, 0, none⟩ = some (.slice A7 m7 c7) := (hb1.cell (p := ⟨Bx, 0, none⟩) hBl).trans hcB
             rw [H7.out.2.2.2.2.1] at o1
             have H8 := Lib.hid (And.intro o1 hb1)
             clear o1 d1)
          | (go_at_call 103
             refine (sameInts_any u1 _ _ _ _ _ _ _ _ ((H7.out.1.at_).fr (Fr.of_below H8.out.2 (fun _ => False)) (Nat.le_refl _) (fun _ _ _ h => h)) H8.out.1.at_).mono ?_
             rintro e u2 ⟨rfl, d2⟩
             have hb2 := H8.out.2.trans (d2.mono H8.out.2.size)
             have cB2 : u2.cell? ⟨Bx, 0, none⟩ = some (.slice A7 m7 c7) := (hb2.cell (p := ⟨Bx, 0, none⟩) hBl).trans hcB
             have H9 := Lib.hid hb2
             clear d2))
      go_wp2_with (fail)
      have hK2 : u2.heap[D]? = some (.deferred (some [])) := (H9.out.block D H7.out.2.2.2.2.2.2.2.1).trans H7.out.2.2.2.2.2.2.1
      refine ⟨by simp, .inl ⟨_, _, rfl, run_takeDeferred hK2, ?_⟩⟩
      exact ⟨_, results_tmp rfl _ _ _, rfl, shut_below (Nat.le_refl _) H7.out.2.2.2.2.2.2.2.2 hK2 (H7.out.2.1.trans (H9.out.mono H7.out.2.1.size))⟩
    case stop =>
      rintro D c pre W _ _ h _
      exact h.elim
end Go.Proofs.YtnlncfjibbdimaaDoor

namespace Go.Proofs.YtnlncfjibbdimaaDoor
open Go.RowKit
set_option linter.unusedSimpArgs false
set_option linter.unusedVariables false

theorem i64_and1 (n : Int) : ∃ j : Nat, j < 2 ∧ bits .and .i64 n 1 = j := by
  have h1 : (BitVec.ofInt 64 1).toNat = 2 ^ 1 - 1 := by decide
  have key : (BitVec.ofInt 64 n &&& BitVec.ofInt 64 1).toNat = (n % ((2 ^ 64 : Nat) : Int)).toNat % 2 ^ 1 := by
    rw [BitVec.toNat_and, BitVec.toNat_ofInt, h1, Nat.and_two_pow_sub_one_eq_mod]
  refine ⟨(n % ((2 ^ 64 : Nat) : Int)).toNat % 2 ^ 1, by omega, ?_⟩
  show IntKind.i64.wrap ((BitVec.ofInt 64 n &&& BitVec.ofInt 64 1).toNat : Nat) = _
  rw [key, IntKind.wrap_i64]
  omega

theorem OwnLed.one {w : World} {lo hi : Nat} {v : Value} {c : Cmd} (h : OwnLed w lo hi v [c]) : ∃ q cap pvk, v = .slice (some ⟨q, 0, none⟩) 1 cap ∧ lo ≤ q ∧ q < hi ∧ w.rangeAt q 0 (c.cells pvk) ∧ OwnInts w lo hi pvk c.parts := by
  obtain ⟨rows, h1, h2, h3, h4⟩ := h
  obtain ⟨r0, hr0⟩ : ∃ r0, rows = [r0] := by
    match rows, h3 with
    | [r0], _ => exact ⟨r0, rfl⟩
  subst hr0
  obtain ⟨pvk, rfl, hp⟩ := h4 0 r0 c rfl rfl
  obtain ⟨⟨hl, h1⟩, hb⟩ := h1
  rcases h1 with ⟨_, h0⟩ | ⟨g, cap, cur, rfl, q1, q2, q3, q4, q5, q6⟩
  · simp at h0
  · refine ⟨g, cap, pvk, rfl, q1, hb g rfl, fun j u hu => ?_, hp⟩
    have hB : Blk w g 81 cur := q2
    rw [Nat.zero_add, hB.cell j]
    have hj : j < 18 := by have := (List.getElem?_eq_some_iff.1 hu).1; rwa [Cmd.cells_length] at this
    have e : (cur.toList.take (1 * 18))[j]? = (c.cells pvk)[j]? := by
      have := congrArg (fun l => l[j]?) q6
      simpa using this
    rw [List.getElem?_take_of_lt (by omega), Array.getElem?_toList] at e
    rw [e]; exact hu

theorem E13.of18 {w : World} {EB : Nat} {A : Nat → Addr} (h : Errs w EB A G18) : E13 w A := fun q hq => h.cell q (by rcases hq with rfl | rfl | rfl | rfl | rfl <;> decide)

section
variable {w w' : World} {M M' O S : Nat → Prop} {B B' g gm n : Nat}
theorem Pair.fr (h : Pair w M O B g gm n) (F : Fr B' S w w') (hB' : w.heap.size ≤ B') (hS : ∀ k, S k → M k) (hO : ∀ k, O k → ¬ S k) : Pair w' M O B g gm n := by
  obtain ⟨ga, f, hs, r, pv, lv, pv2, dv, lv2, p⟩ := h
  exact ⟨ga, f, hs, r, pv, lv, pv2, dv, lv2, p.fr F hB' hS hO⟩
theorem Pair.below (h : Pair w M O B g gm n) (b : Below w.heap.size w w') : Pair w' M O B g gm n := h.fr (Fr.of_below b (fun _ => False)) (Nat.le_refl _) (fun _ h => h.elim) (fun _ _ h => h)
theorem Pair.grow (h : Pair w M O B g gm n) (hM : ∀ m, M' m → M m ∨ w.heap.size ≤ m) (hM' : ∀ m, M m → M' m) : Pair w M' O B g gm n := by
  obtain ⟨ga, f, hs, r, pv, lv, pv2, dv, lv2, p⟩ := h
  exact ⟨ga, f, hs, r, pv, lv, pv2, dv, lv2, p.grow hM hM'⟩
theorem Pair.om (h : Pair w M O B g gm n) : ∀ k, O k → M k := by
  obtain ⟨ga, f, hs, r, pv, lv, pv2, dv, lv2, p⟩ := h
  exact p.om
end

/-- k rounds of two are made. -/
structure DuoAt (W : World) (M : Nat → Prop) (n k a5 a6 : Nat) (c : Cmd) (pv : Value) (gs gms Bs : Nat → Nat) (O : Nat → Nat → Prop) (wr : World) : Prop where
  pair : ∀ j, j < k → Pair wr M (O j) (Bs j) (gs j) (gms j) n
  dis : ∀ i j, i < k → j < k → i ≠ j → ∀ q, O i q → ¬ O j q
  lt : ∀ m, M m → W.heap.size < m ∧ m < wr.heap.size
  m5 : M a5
  m6 : M a6
  b5 : ∃ cs, Blk wr a5 113 cs ∧ cs.size = 2 ∧ ∀ j, j < k → cs[j]? = some (.pointer (some ⟨gs j, 0, none⟩))
  b6 : ∃ cs, Blk wr a6 115 cs ∧ cs.size = 2 ∧ ∀ j, j < k → cs[j]? = some (.pointer (some ⟨gms j, 0, none⟩))
  na : ∀ j, j < k → ¬ O j a5 ∧ ¬ O j a6
  cmd : Blk wr W.heap.size 81 (c.cells pv).toArray
  bel : Below W.heap.size W wr

section
variable {W wr w1 w2 w3 w4 w5 : World} {M : Nat → Prop} {n k a5 a6 : Nat} {c : Cmd} {pv : Value} {gs gms Bs : Nat → Nat} {O : Nat → Nat → Prop}
theorem DuoAt.below (h : DuoAt W M n k a5 a6 c pv gs gms Bs O wr) (b : Below wr.heap.size wr w2) : DuoAt W M n k a5 a6 c pv gs gms Bs O w2 := by
  obtain ⟨c5, h5, s5, k5⟩ := h.b5
  obtain ⟨c6, h6, s6, k6⟩ := h.b6
  exact ⟨fun j hj => (h.pair j hj).below b, h.dis, fun m hm => ⟨(h.lt m hm).1, Nat.lt_of_lt_of_le (h.lt m hm).2 b.size⟩, h.m5, h.m6, ⟨c5, h5.below b h5.lt, s5, k5⟩, ⟨c6, h6.below b h6.lt, s6, k6⟩, h.na, h.cmd.below b h.cmd.lt, h.bel.trans (b.mono h.bel.size)⟩
/-- Round j and the document's j have played. -/
theorem DuoAt.play (h : DuoAt W M n k a5 a6 c pv gs gms Bs O wr) {j : Nat} (hj : j < k) (hp : Played M (O j) (Bs j) (gs j) (gms j) n wr w2) : ∃ M' O', DuoAt W M' n k a5 a6 c pv gs gms Bs O' w2 := by
  obtain ⟨M', Oj, p, F, q1, q2, q3, q4, q5⟩ := hp
  obtain ⟨c5, h5, s5, k5⟩ := h.b5
  obtain ⟨c6, h6, s6, k6⟩ := h.b6
  have hom := (h.pair j hj).om
  have hb := h.bel.size
  refine ⟨M', fun i => if i = j then Oj else O i, fun i hi => ?_, fun i i' hi hi' hne q hq hq' => ?_, fun m hm => ⟨?_, q3 m hm⟩, q1 _ h.m5, q1 _ h.m6, ⟨c5, h5.fr F h5.lt (h.na j hj).1, s5, k5⟩, ⟨c6, h6.fr F h6.lt (h.na j hj).2, s6, k6⟩, fun i hi => ?_, h.cmd.fr F h.cmd.lt (fun e => by have := (h.lt _ (hom _ e)).1; omega), ?_⟩
  · by_cases e : i = j
    · subst e; simp only [if_true]; exact p
    · simp only [if_neg e]
      exact ((h.pair i hi).grow q2 q1).fr F (Nat.le_refl _) (fun k hk => q1 k (hom k hk)) (fun k hk => h.dis i j hi hj e k hk)
  · have old : ∀ i, i < k → ∀ q, O i q → q < wr.heap.size := fun i hi q hq => (h.lt q ((h.pair i hi).om q hq)).2
    by_cases e : i = j
    · by_cases e' : i' = j
      · omega
      · simp only [if_pos e] at hq
        simp only [if_neg e'] at hq'
        rcases q5 q hq with e1 | e1
        · exact h.dis j i' hj hi' (fun e => e' e.symm) q e1 hq'
        · have := old i' hi' q hq'; omega
    · simp only [if_neg e] at hq
      by_cases e' : i' = j
      · simp only [if_pos e'] at hq'
        rcases q5 q hq' with e1 | e1
        · exact h.dis i j hi hj e q hq e1
        · have := old i hi q hq; omega
      · simp only [if_neg e'] at hq'
        exact h.dis i i' hi hi' hne q hq hq'
  · rcases q2 m hm with e | e
    · exact (h.lt m e).1
    · have := (h.lt _ h.m5); omega
  · have l5 := (h.lt _ h.m5).2
    have l6 := (h.lt _ h.m6).2
    by_cases e : i = j
    · simp only [if_pos e]
      refine ⟨fun e1 => ?_, fun e1 => ?_⟩
      · rcases q5 _ e1 with e2 | e2
        · exact (h.na j hj).1 e2
        · omega
      · rcases q5 _ e1 with e2 | e2
        · exact (h.na j hj).2 e2
        · omega
    · simp only [if_neg e]; exact h.na i hi
  · exact h.bel.trans ((F.mono hb (S' := fun _ => False) (fun q hq hq' => by have := (h.lt _ (hom _ hq')).1; omega)).below (fun _ _ h => h))

theorem RndF.of_new {w w' : World} {n : Nat} {c : Cmd} {reads : Bool} {e : Ending} (h : New13Post n c reads w e w') (hM : ∀ m, M m → m < w.heap.size) :
    ∃ ga pv', e = .returned (.tuple #[.pointer (some ⟨ga + 1, 0, none⟩), .nilIface]) ∧ RndF w' (fun q => M q ∨ q = ga ∨ q = ga + 1) w'.heap.size (ga + 1) ga n (fun _ => false) ⟨c, reads, 0, 0, 0, 0, 0, [], 0⟩ pv' (.slice none 0 0) ∧ w.heap.size ≤ ga ∧ ga + 2 ≤ w'.heap.size ∧ Below w.heap.size w w' := by
  obtain ⟨ga, pv', he, h1, h2, h3, h4, h5⟩ := h
  refine ⟨ga, pv', he, ⟨h3.hg, h3.hga, h3.ne, h3.hB, h3.row, h3.ans, ⟨ga, by omega, Nat.le_refl _, ?_⟩, LedP.nil_ _ _, h3.sz, .inr (.inr rfl), .inr (.inl rfl)⟩, h1, h2, h5⟩
  refine IntsP.of h4.at_ (by omega) (fun m hm => ?_)
  rcases hm with (hm | hm | hm) | hm
  · exact .inl (hM m hm)
  · exact .inr (by omega)
  · exact .inr (by omega)
  · exact .inr hm

/-- One more round is made. -/
theorem DuoAt.add {reads : Bool} {lo4 hi4 ga gm : Nat} {pv' pvd : Value} (h : DuoAt W M n k a5 a6 c pv gs gms Bs O wr) (hk : k < 2) (hn : 0 < n) (b1 : Below wr.heap.size wr w1) (hlo : wr.heap.size ≤ lo4) (hhi : hi4 ≤ w1.heap.size)
    (hR : RndF w2 (fun q => (M q ∨ (lo4 ≤ q ∧ q < hi4)) ∨ q = ga ∨ q = ga + 1) w2.heap.size (ga + 1) ga n (fun _ => false) ⟨c, reads, 0, 0, 0, 0, 0, [], 0⟩ pv' (.slice none 0 0)) (hga : w1.heap.size ≤ ga) (hga2 : ga + 2 ≤ w2.heap.size) (b2 : Below w1.heap.size w1 w2)
    (hD : MAt w3 (fun q => ((M q ∨ (lo4 ≤ q ∧ q < hi4)) ∨ q = ga ∨ q = ga + 1) ∨ q = gm) gm n [] ⟨c, reads, 0, 0, 0, 0, 0, [], 0⟩ pvd (.slice none 0 0) (.slice none 0 0)) (hgm : w2.heap.size ≤ gm) (hgm2 : gm < w3.heap.size) (b3 : Below w2.heap.size w2 w3)
    (F4 : Fr w3.heap.size (fun q => lo4 ≤ q ∧ q < hi4) w3 w4) :
    ∃ M', DuoAt W M' n (k + 1) a5 a6 c pv (upd gs k (ga + 1)) (upd gms k gm) (upd Bs k w2.heap.size) (fun i => if i = k then (fun q => q = ga ∨ q = ga + 1 ∨ q = gm) else O i) ((w4.setCell ⟨a5, k, none⟩ (.pointer (some ⟨ga + 1, 0, none⟩))).setCell ⟨a6, k, none⟩ (.pointer (some ⟨gm, 0, none⟩))) := by
  obtain ⟨c5, h5, s5, k5⟩ := h.b5
  obtain ⟨c6, h6, s6, k6⟩ := h.b6
  have l5 := h.lt _ h.m5
  have l6 := h.lt _ h.m6
  have z1 := b1.size
  have z2 := b2.size
  have z3 := b3.size
  have z4 := F4.size
  have h56 : a5 ≠ a6 := blk_ne13 h5 h6 (by decide)
  have b03 : Below wr.heap.size wr w3 := (b1.trans (b2.mono z1)).trans (b3.mono (by omega))
  obtain ⟨M3, hM3⟩ : ∃ M3 : Nat → Prop, M3 = fun q => ((M q ∨ (lo4 ≤ q ∧ q < hi4)) ∨ q = ga ∨ q = ga + 1) ∨ q = gm := ⟨_, rfl⟩
  rw [← hM3] at hD
  have up : ∀ m, M m → M3 m := fun m hm => by rw [hM3]; exact .inl (.inl (.inl hm))
  have up4 : ∀ m, lo4 ≤ m ∧ m < hi4 → M3 m := fun m hm => by rw [hM3]; exact .inl (.inl (.inr hm))
  have hMlt : ∀ m, M m → m < wr.heap.size := fun m hm => (h.lt m hm).2
  have new3 : ∀ m, M3 m → M m ∨ wr.heap.size ≤ m := fun m hm => by
    rw [hM3] at hm
    rcases hm with ((hm | hm) | hm | hm) | hm
    · exact .inl hm
    · exact .inr (by omega)
    · exact .inr (by omega)
    · exact .inr (by omega)
    · exact .inr (by omega)
  have lt3 : ∀ m, M3 m → m < w3.heap.size := fun m hm => by
    rw [hM3] at hm
    rcases hm with ((hm | hm) | hm | hm) | hm
    · have := hMlt m hm; omega
    · omega
    · omega
    · omega
    · omega
  have F5 : Fr w4.heap.size (fun q => q = a5 ∨ q = a6) w4 ((w4.setCell ⟨a5, k, none⟩ (.pointer (some ⟨ga + 1, 0, none⟩))).setCell ⟨a6, k, none⟩ (.pointer (some ⟨gm, 0, none⟩))) :=
    ((Fr.refl _ _ _).setCell (p := ⟨a5, k, none⟩) (.inl (.inl rfl)) _).setCell (p := ⟨a6, k, none⟩) (.inl (.inr rfl)) _
  have hP3 : PairAt w3 M3 (fun q => q = ga ∨ q = ga + 1 ∨ q = gm) w2.heap.size (ga + 1) ga gm n (fun _ => false) [] ⟨c, reads, 0, 0, 0, 0, 0, [], 0⟩ pv' (.slice none 0 0) pvd (.slice none 0 0) (.slice none 0 0) :=
    ⟨(hR.grow (M' := M3) (fun m hm => by rw [hM3] at hm; rcases hm with hm | hm; exact .inl hm; exact .inr (by omega)) (by rw [hM3]; exact .inl (.inr (.inr rfl))) (by rw [hM3]; exact .inl (.inr (.inl rfl)))).below b3, hD, Tied.nil_ n, .inr (.inl rfl), .inl rfl, .inr (.inr rfl), fun q hq => by simp [Value.ownBlock] at hq, fun q hq => by
      rw [hM3]
      rcases hq with rfl | rfl | rfl
      · exact .inl (.inr (.inl rfl))
      · exact .inl (.inr (.inr rfl))
      · exact .inr rfl, hn⟩
  have old : ∀ j, j < k → Pair w3 M3 (O j) (Bs j) (gs j) (gms j) n := fun j hj => ((h.pair j hj).grow new3 up).below b03
  have oldO : ∀ j, j < k → ∀ q, O j q → q < wr.heap.size := fun j hj q hq => hMlt q ((h.pair j hj).om q hq)
  have all3 : ∀ j, j < k + 1 → Pair w3 M3 ((fun i => if i = k then (fun q => q = ga ∨ q = ga + 1 ∨ q = gm) else O i) j) (upd Bs k w2.heap.size j) (upd gs k (ga + 1) j) (upd gms k gm j) n := fun j hj => by
    by_cases e : j = k
    · subst e
      simp only [if_true, upd_same]
      exact ⟨_, _, _, _, _, _, _, _, _, hP3⟩
    · simp only [if_neg e, upd_other _ _ e]
      exact old j (by omega)
  have outO : ∀ j, j < k + 1 → ∀ q, (fun i => if i = k then (fun q => q = ga ∨ q = ga + 1 ∨ q = gm) else O i) j q → (q < wr.heap.size ∧ j < k ∧ O j q) ∨ (w1.heap.size ≤ q ∧ j = k) := fun j hj q hq => by
    by_cases e : j = k
    · simp only [if_pos e] at hq
      exact .inr ⟨by omega, e⟩
    · simp only [if_neg e] at hq
      exact .inl ⟨oldO j (by omega) q hq, by omega, hq⟩
  refine ⟨M3, fun j hj => ?_, fun i j hi hj hne q hq hq' => ?_, fun m hm => ⟨?_, ?_⟩, up _ h.m5, up _ h.m6, ?_, ?_, fun j hj => ?_, ?_, ?_⟩
  · refine ((all3 j hj).fr F4 (Nat.le_refl _) up4 (fun q hq hs => ?_)).fr F5 (Nat.le_refl _) (fun q hq => ?_) (fun q hq hs => ?_)
    · rcases outO j hj q hq with ⟨e, _⟩ | ⟨e, _⟩ <;> omega
    · rcases hq with rfl | rfl
      · exact up _ h.m5
      · exact up _ h.m6
    · rcases outO j hj q hq with ⟨_, e1, e2⟩ | ⟨e, _⟩
      · rcases hs with rfl | rfl
        · exact (h.na j e1).1 e2
        · exact (h.na j e1).2 e2
      · rcases hs with rfl | rfl <;> omega
  · rcases outO i hi q hq with ⟨e, e1, e2⟩ | ⟨e, e1⟩ <;> rcases outO j hj q hq' with ⟨e', e1', e2'⟩ | ⟨e', e1'⟩
    · exact h.dis i j e1 e1' hne q e2 e2'
    · omega
    · omega
    · omega
  · rcases new3 m hm with e | e
    · exact (h.lt m e).1
    · omega
  · have := lt3 m hm
    have := F5.size
    omega
  · refine ⟨c5.setIfInBounds k (.pointer (some ⟨ga + 1, 0, none⟩)), ?_, by simp [s5], fun j hj => ?_⟩
    · have q1 := (h5.below b03 h5.lt).fr F4 (by omega) (fun e => by omega)
      exact (q1.set_ k _).far (p := ⟨a6, k, none⟩) h56 _
    · by_cases e : j = k
      · subst e; simp [s5, hk, upd_same]
      · rw [Array.getElem?_setIfInBounds_ne (by omega), upd_other _ _ e]
        exact k5 j (by omega)
  · refine ⟨c6.setIfInBounds k (.pointer (some ⟨gm, 0, none⟩)), ?_, by simp [s6], fun j hj => ?_⟩
    · have q1 := (h6.below b03 h6.lt).fr F4 (by omega) (fun e => by omega)
      exact (q1.far (p := ⟨a5, k, none⟩) (Ne.symm h56) _).set_ k _
    · by_cases e : j = k
      · subst e; simp [s6, hk, upd_same]
      · rw [Array.getElem?_setIfInBounds_ne (by omega), upd_other _ _ e]
        exact k6 j (by omega)
  · refine ⟨fun e => ?_, fun e => ?_⟩
    · rcases outO j hj _ e with ⟨_, e1, e2⟩ | ⟨e, _⟩
      · exact (h.na j e1).1 e2
      · omega
    · rcases outO j hj _ e with ⟨_, e1, e2⟩ | ⟨e, _⟩
      · exact (h.na j e1).2 e2
      · omega
  · have lc := h.cmd.lt
    have hb := h.bel.size
    exact ((h.cmd.below b03 lc).fr F4 (by omega) (fun e => by omega)).fr F5 (by omega) (fun e => by omega)
  · have hb := h.bel.size
    have f4 : Fr W.heap.size (fun _ => False) w3 w4 := F4.mono (by omega) (fun q h1 h2 => by omega)
    have f5 := F5.mono (B' := W.heap.size) (S' := fun _ => False) (by omega) (fun q h1 h2 => by omega)
    exact (h.bel.trans (b03.mono hb)).trans ((f4.trans f5).below (fun _ _ h => h))
end
end Go.Proofs.YtnlncfjibbdimaaDoor

namespace Go.Proofs.YtnlncfjibbdimaaDoor
open Go.RowKit
set_option linter.unusedSimpArgs false
set_option linter.unusedVariables false

/-- A script in memory. -/
def Script13 (w : World) (v : Value) (os : List Op13R) : Prop :=
  ∃ A c, v = .slice A os.length c ∧ os.length ≤ c ∧ c ≤ maxLen ∧ ∀ (i : Nat) (o : Op13R), os[i]? = some o → ∃ b k, A = some ⟨b, k, none⟩ ∧ b < w.heap.size ∧ w.rangeAt b (k + i * 8) o.cells ∧ LedAt w 0 w.heap.size o.lv o.led

/-- What a call of the law answers. -/
abbrev Law13 (W : World) (e : Ending) (W' : World) : Prop := e = .returned (.bool true) ∧ Below W.heap.size W W'
theorem num2 {w : World} {EB : Nat} {A : Nat → Addr} (hE : Errs w EB A G18) (hEB : EB ≤ w.heap.size) : Calls Tryd.prog 64 #[errv (A 0)] w fun e w' => e = .returned (.int .i64 2) ∧ Below w.heap.size w w' := by
  have := num_any hE hEB 1 0 rfl
  unfold NumPost at this
  simpa using this
/-- Parts of the call's own are written over. -/
theorem OwnInts.at_cell {w : World} {lo hi m : Nat} {A : Option Addr} {cc : Nat} {xs : List Int} (h : OwnInts w lo hi (.slice A m cc) xs) (h0 : 0 < m) : ∃ g' ds, A = some ⟨g', 0, none⟩ ∧ lo ≤ g' ∧ g' < hi ∧ Blk w g' 3 ds ∧ m ≤ ds.size := by
  obtain ⟨⟨⟨q0, h1⟩, h2⟩, h3⟩ := h
  rcases h1 with ⟨e, h0'⟩ | ⟨g, cap, cur, e, q1, q2, q3, q4, q5, q6⟩
  · injection e with _ e
    omega
  · injection e with e1 e2 e3
    refine ⟨g, cur, e1, q1, h2 g (by rw [e1]; rfl), q2, ?_⟩
    omega

section
variable {W : World} {A : Nat → Addr} {c : Cmd} {pv v : Value}

theorem Played.frame {w w' : World} {M O : Nat → Prop} {B g gm n : Nat} (h : Played M O B g gm n w w') : Fr w.heap.size O w w' := by
  obtain ⟨_, _, _, h, _⟩ := h
  exact h

theorem play13_any {w : World} {M O : Nat → Prop} {B g gm n EB : Nat} (h : Pair w M O B g gm n) (hM : ∀ m, M m → m < w.heap.size) (hE : Errs w EB A G18) (hEB : EB ≤ w.heap.size) (hME : ∀ m, M m → EB ≤ m) (kind which from_ br bn ar an : Int) (ov : Value) (led : List Cmd) (lo hi : Nat) (hL : LedAt w lo hi ov led) (hhi : hi ≤ w.heap.size) (hLM : ∀ m, M m → m < lo ∨ hi ≤ m) :
    Calls Tryd.prog 65 #[.pointer (some ⟨g, 0, none⟩), .pointer (some ⟨gm, 0, none⟩), .agg #[.int .i64 kind, .int .i64 which, .int .i64 from_, .int .i64 br, .int .i64 bn, .int .i64 ar, .int .i64 an, ov]] w (PlayPost13 M O B g gm n w) := by
  obtain ⟨ga, f, hs, r, pv, lv, pv2, dv, lv2, p⟩ := h
  by_cases k1 : kind = 1
  · subst k1
    by_cases h3 : 3 ≤ r.stage
    · exact play13_late p hM hE hEB hME which from_ br bn ar an ov h3
    · by_cases hl : lg br bn = true ∧ ab br bn r.br r.bn = true
      · exact play13_begins p hM hE hEB hME which from_ br bn ar an ov (by omega) hl.1 hl.2
      · exact play13_no p hM hE hEB hME which from_ br bn ar an ov (by omega) hl
  · by_cases k2 : kind = 2
    · subst k2
      by_cases hf : fitsR r n f 1 from_ br bn
      · obtain ⟨q1, q2, j, q3, q4, q5⟩ := hf
        exact play13_pryes p hM hE hEB hME which from_ br bn ar an ov led lo hi hL hhi hLM j q3 q1 q2 q4 q5
      · exact play13_prno p hM hE hEB hME which from_ br bn ar an ov led lo hi hL hhi hLM hf
    · by_cases k3 : kind = 3
      · subst k3
        by_cases hf : fitsR r n f 2 from_ br bn
        · obtain ⟨q1, q2, j, q3, q4, q5⟩ := hf
          exact play13_accyes p hM hE hEB hME which from_ br bn ar an ov j q3 q1 q2 q4 q5
        · exact play13_accno p hM hE hEB hME which from_ br bn ar an ov hf
      · exact play13_none p hM kind which from_ br bn ar an ov k1 k2 k3
theorem asks13_any {w : World} {M O : Nat → Prop} {B g gm n : Nat} (h : Pair w M O B g gm n) (a10 : Addr) (h10 : w.cell? ⟨10, 0, none⟩ = some (errv a10)) : Calls Tryd.prog 66 #[.pointer (some ⟨g, 0, none⟩), .pointer (some ⟨gm, 0, none⟩)] w (YesNo true w) := by
  obtain ⟨ga, f, hs, r, pv, lv, pv2, dv, lv2, p⟩ := h
  exact asks_any w p.rnd p.doc p.tie a10 h10

set_option maxRecDepth 100000 in
set_option maxHeartbeats 6400000 in
theorem plays13_num (hE : Errs W W.heap.size A G18) (hz : c.Sized) (hp : IntsAt W 0 W.heap.size pv c.parts) (N : Int) (hN : N < 1 ∨ 16 < N) (A0 : Option Addr) (n0 c0 : Nat) :
    Calls Tryd.prog 13 #[.int .i64 N, .agg (c.cells pv).toArray, .slice A0 n0 c0] W (Law13 W) := by
  have HN := Lib.hid hN
  clear hN
  have h13 := E13.of18 hE
  have bA : Below W.heap.size W (W.alloc (.cells (c.cells pv).toArray 81)) := (Below.refl _ _).alloc (Nat.le_refl _) _
  have hX := Blk.new W 81 (c.cells pv).toArray
  have HA := Lib.hid (And.intro bA (And.intro hX (And.intro hE (And.intro h13 hp))))
  clear bA hX hE h13 hp
  go_enter Tryd.func13, Tryd.ntmps13
  go_upto_region 3 with (first | (go_at_call 52; refine (alive13_any _ A (HA.out.2.2.2.1.below HA.out.1)).mono ?_; rintro e w1 ⟨rfl, b1⟩; have H1 := Lib.hid b1; clear b1) | fail)
  go_upto_region 5 with (fail)
  have hb1 := HA.out.1.trans (H1.out.mono HA.out.1.size)
  have hX1 := HA.out.2.1.below H1.out HA.out.2.1.lt
  have hs1 := hb1.size
  have hxl : W.heap.size < w1.heap.size := hX1.lt
  obtain ⟨M0, hM0⟩ : ∃ M0 : Nat → Prop, M0 = fun q => q = w1.heap.size ∨ q = w1.heap.size + 1 := ⟨_, rfl⟩
  refine wp_letter (fun W2 => DuoAt W M0 0 0 w1.heap.size (w1.heap.size + 1) c pv (fun _ => 0) (fun _ => 0) (fun _ => 0) (fun _ _ => False) W2)
    ⟨fun j hj => absurd hj (by omega), fun i j hi => absurd hi (by omega), fun m hm => by rw [hM0] at hm; simp; omega, by rw [hM0]; exact .inl rfl, by rw [hM0]; exact .inr rfl, ⟨_, (Blk.new w1 113 _).alloc _, rfl, fun j hj => absurd hj (by omega)⟩, ⟨_, Blk.new1 w1 _ 115 _, rfl, fun j hj => absurd hj (by omega)⟩, fun j hj => absurd hj (by omega), (hX1.alloc _).alloc _, (hb1.alloc hs1 _).alloc (by simp; omega) _⟩ ?_
  rintro W2 hD2
  obtain ⟨a5, ha5⟩ : ∃ a5, a5 = w1.heap.size := ⟨_, rfl⟩
  obtain ⟨a6, ha6⟩ : ∃ a6, a6 = w1.heap.size + 1 := ⟨_, rfl⟩
  rw [← ha6, ← ha5] at hD2
  rw [← ha6, ← ha5]
  have HD2 := Lib.hid hD2
  obtain ⟨i1, z1, hi1, hz11, hz12, hz13, hz14⟩ := cmd_info'
  clear hb1 hX1 hs1 hxl hD2 ha5 ha6 hM0
  go_wp2_with (fail)
  go_loopw [21] (fun i wr => i = .int .i64 0 ∧ Hid (DuoAt W M0 0 0 a5 a6 c pv (fun _ => 0) (fun _ => 0) (fun _ => 0) (fun _ _ => False) wr)) (fun _ _ => 0)
  case atStart => exact ⟨rfl, Lib.hid HD2.out⟩
  case round =>
    obtain ⟨rfl, HD⟩ := hrel
    have hrng := HD.out.cmd.range (cs := c.cells pv)
    have hpr : IntsAt wr 0 W.heap.size pv c.parts := HA.out.2.2.2.2.fr (Fr.of_below HD.out.bel (fun _ => False)) (Nat.le_refl _) (fun _ _ _ h => h)
    have HPR := Lib.hid hpr
    clear hpr
    go_upto_region 9 with (first
      | ((with_reducible refine law_load 81 (.tmp 4) W.heap.size 0 (c.cells pv) ?_ hrng Tryd.underlying81 ?_ ?_ ?_); rfl; rfl; exact cmd_info)
      | ((with_reducible refine law_buildSlice1 46 81 (.tmp 24) i1 z1 (c.cells pv).toArray 18 ?_ Tryd.underlying46 hi1 hz11 hz12 hz14 ?_ (by decide) (by decide) ?_); rfl; rfl)
      | (go_at_call 42
         refine (rcopy_any (wr.alloc (.cells (c.cells pv).toArray 81)) 0 (max W.heap.size (wr.heap.size + 1)) _ [c] (LedAt.one13 (Blk.new wr 81 _) (HPR.out.fr (Fr.of_below ((Below.refl wr.heap.size wr).alloc (Nat.le_refl _) _) (fun _ => False)) HD.out.bel.size (fun _ _ _ h => h))) (by have := HD.out.bel.size; simp; omega)).mono ?_
         rintro e w2 ⟨v2, rfl, o2, b2⟩
         obtain ⟨q, cap, pvk, rfl, q1, q2, hr2, hp2⟩ := o2.one
         obtain ⟨A4, c4, hpk, _⟩ := hp2.1.form
         obtain ⟨m4, hm4⟩ : ∃ m4, m4 = c.parts.length := ⟨_, rfl⟩
         rw [← hm4] at hpk
         subst hpk
         have H2 := Lib.hid (And.intro b2 (And.intro hp2 (And.intro hm4 (And.intro q1 q2))))
         clear b2 hp2 hm4 o2 q1 q2)
      | ((with_reducible refine law_load 81 (.tmp 27) q 0 (c.cells (.slice A4 m4 c4)) ?_ hr2 Tryd.underlying81 ?_ ?_ ?_); rfl; rfl; exact cmd_info)
      | ((with_reducible refine law_store_fresh 81 (.tmp 10) (.tmp 28) w2 81 _ (c.cells (.slice A4 m4 c4)).toArray ?_ ?_ rfl ?_ ?_ (cells_oneCell _ _ _ _) ?_); rfl; rfl; exact cmd_info; rfl)
      | fail)
    clear hrng hr2
    have hbw : Below wr.heap.size wr w2 := ((Below.refl wr.heap.size wr).alloc (Nat.le_refl _) _).trans (H2.out.1.mono (by simp))
    refine wp_letter (fun W3 => Below wr.heap.size wr W3 ∧ Blk W3 w2.heap.size 81 (c.cells (.slice A4 m4 c4)).toArray ∧ OwnInts W3 (wr.heap.size + 1) w2.heap.size (.slice A4 m4 c4) c.parts ∧ w2.heap.size ≤ W3.heap.size)
      ⟨hbw.alloc hbw.size _, Blk.new _ _ _, by have := H2.out.2.1.fr (Fr.of_below ((Below.refl w2.heap.size w2).alloc (Nat.le_refl _) (.cells (c.cells (.slice A4 m4 c4)).toArray 81)) (fun _ => False)) (Nat.le_refl _) (fun _ _ _ h => h); simpa using this, by simp⟩ ?_
    rintro W3 ⟨b3, hX3, hp3, hs3⟩
    obtain ⟨lo4, hlo4⟩ : ∃ lo4, lo4 = wr.heap.size + 1 := ⟨_, rfl⟩
    obtain ⟨hi4, hhi4⟩ : ∃ hi4, hi4 = w2.heap.size := ⟨_, rfl⟩
    obtain ⟨x10, hx10⟩ : ∃ x10, x10 = w2.heap.size := ⟨_, rfl⟩
    rw [← hx10] at hX3
    rw [← hlo4, ← hhi4] at hp3
    rw [← hhi4] at hs3
    rw [← hx10]
    have hrk := hX3.range (cs := c.cells (.slice A4 m4 c4))
    have hrc := (HD.out.cmd.below b3 HD.out.cmd.lt).range (cs := c.cells pv)
    have H3 := Lib.hid (And.intro b3 (And.intro hX3 (And.intro hp3 (And.intro hs3 (And.intro (show wr.heap.size ≤ lo4 by omega) (And.intro H2.out.2.2.1 (show x10 = hi4 by omega)))))))
    clear b3 hX3 hp3 hs3 hbw H2 hlo4 hhi4 hx10
    go_upto_region 10 with (first
      | ((with_reducible refine law_load 81 (.tmp 10) x10 0 (c.cells (.slice A4 m4 c4)) ?_ hrk Tryd.underlying81 ?_ ?_ ?_); rfl; rfl; exact cmd_info)
      | (go_at_call 53
         refine (new13_num W3 N c _ false (A 0) (((HA.out.2.2.2.1.below HD.out.bel).below H3.out.1) 0 (by simp)) HN.out).mono ?_
         rintro e w4 ⟨rfl, b4⟩
         have hrc4 := ((HD.out.cmd.below H3.out.1 HD.out.cmd.lt).below b4 (Nat.lt_of_lt_of_le HD.out.cmd.lt H3.out.1.size)).range (cs := c.cells pv)
         have H4 := Lib.hid b4
         clear b4)
      | fail)
    have hbW4 : Below W.heap.size W w4 := (HD.out.bel.trans (H3.out.1.mono HD.out.bel.size)).trans (H4.out.mono (Nat.le_trans HD.out.bel.size H3.out.1.size))
    have H5 := Lib.hid hbW4
    clear hbW4
    go_upto_region 11 with (first
      | ((with_reducible refine law_load 81 (.tmp 4) W.heap.size 0 (c.cells pv) ?_ hrc4 Tryd.underlying81 ?_ ?_ ?_); rfl; rfl; exact cmd_info)
      | (go_at_call 63
         refine (rnew63_num w4 N c pv false HN.out).mono ?_
         rintro e w5 ⟨rfl, b5⟩
         have H6 := Lib.hid (H5.out.trans (b5.mono H5.out.size))
         clear b5)
      | fail)
    go_wp2_with (first
      | (go_at_call 64
         refine (num2 (HA.out.2.2.1.fr (Fr.of_below H6.out (fun _ => False)) (Nat.le_refl _) (fun _ _ h => h)) H6.out.size).mono ?_
         rintro e w6 ⟨rfl, b6⟩
         have H7 := Lib.hid (H6.out.trans (b6.mono H6.out.size))
         clear b6)
      | fail)
    go_ret
    exact ⟨rfl, H7.out⟩

set_option maxRecDepth 100000 in
set_option maxHeartbeats 6400000 in
theorem plays13_state (hE : Errs W W.heap.size A G18) (hz : c.Sized) (hp : IntsAt W 0 W.heap.size pv c.parts) (n : Nat) (hn : 1 ≤ n ∧ n ≤ 16) (hc : chkB c = false) (A0 : Option Addr) (n0 c0 : Nat) :
    Calls Tryd.prog 13 #[.int .i64 n, .agg (c.cells pv).toArray, .slice A0 n0 c0] W (Law13 W) := by
  have HN := Lib.hid (And.intro hn hc)
  clear hn hc
  have h13 := E13.of18 hE
  have bA : Below W.heap.size W (W.alloc (.cells (c.cells pv).toArray 81)) := (Below.refl _ _).alloc (Nat.le_refl _) _
  have hX := Blk.new W 81 (c.cells pv).toArray
  have HA := Lib.hid (And.intro bA (And.intro hX (And.intro hE (And.intro h13 hp))))
  clear bA hX hE h13 hp
  go_enter Tryd.func13, Tryd.ntmps13
  go_upto_region 3 with (first | (go_at_call 52; refine (alive13_any _ A (HA.out.2.2.2.1.below HA.out.1)).mono ?_; rintro e w1 ⟨rfl, b1⟩; have H1 := Lib.hid b1; clear b1) | fail)
  go_upto_region 5 with (fail)
  have hb1 := HA.out.1.trans (H1.out.mono HA.out.1.size)
  have hX1 := HA.out.2.1.below H1.out HA.out.2.1.lt
  have hs1 := hb1.size
  have hxl : W.heap.size < w1.heap.size := hX1.lt
  obtain ⟨M0, hM0⟩ : ∃ M0 : Nat → Prop, M0 = fun q => q = w1.heap.size ∨ q = w1.heap.size + 1 := ⟨_, rfl⟩
  refine wp_letter (fun W2 => DuoAt W M0 n 0 w1.heap.size (w1.heap.size + 1) c pv (fun _ => 0) (fun _ => 0) (fun _ => 0) (fun _ _ => False) W2)
    ⟨fun j hj => absurd hj (by omega), fun i j hi => absurd hi (by omega), fun m hm => by rw [hM0] at hm; simp; omega, by rw [hM0]; exact .inl rfl, by rw [hM0]; exact .inr rfl, ⟨_, (Blk.new w1 113 _).alloc _, rfl, fun j hj => absurd hj (by omega)⟩, ⟨_, Blk.new1 w1 _ 115 _, rfl, fun j hj => absurd hj (by omega)⟩, fun j hj => absurd hj (by omega), (hX1.alloc _).alloc _, (hb1.alloc hs1 _).alloc (by simp; omega) _⟩ ?_
  rintro W2 hD2
  obtain ⟨a5, ha5⟩ : ∃ a5, a5 = w1.heap.size := ⟨_, rfl⟩
  obtain ⟨a6, ha6⟩ : ∃ a6, a6 = w1.heap.size + 1 := ⟨_, rfl⟩
  rw [← ha6, ← ha5] at hD2
  rw [← ha6, ← ha5]
  have HD2 := Lib.hid hD2
  obtain ⟨i1, z1, hi1, hz11, hz12, hz13, hz14⟩ := cmd_info'
  clear hb1 hX1 hs1 hxl hD2 ha5 ha6 hM0
  go_wp2_with (fail)
  go_loopw [21] (fun i wr => i = .int .i64 0 ∧ Hid (DuoAt W M0 n 0 a5 a6 c pv (fun _ => 0) (fun _ => 0) (fun _ => 0) (fun _ _ => False) wr)) (fun _ _ => 0)
  case atStart => exact ⟨rfl, Lib.hid HD2.out⟩
  case round =>
    obtain ⟨rfl, HD⟩ := hrel
    have hrng := HD.out.cmd.range (cs := c.cells pv)
    have hpr : IntsAt wr 0 W.heap.size pv c.parts := HA.out.2.2.2.2.fr (Fr.of_below HD.out.bel (fun _ => False)) (Nat.le_refl _) (fun _ _ _ h => h)
    have HPR := Lib.hid hpr
    clear hpr
    go_upto_region 9 with (first
      | ((with_reducible refine law_load 81 (.tmp 4) W.heap.size 0 (c.cells pv) ?_ hrng Tryd.underlying81 ?_ ?_ ?_); rfl; rfl; exact cmd_info)
      | ((with_reducible refine law_buildSlice1 46 81 (.tmp 24) i1 z1 (c.cells pv).toArray 18 ?_ Tryd.underlying46 hi1 hz11 hz12 hz14 ?_ (by decide) (by decide) ?_); rfl; rfl)
      | (go_at_call 42
         refine (rcopy_any (wr.alloc (.cells (c.cells pv).toArray 81)) 0 (max W.heap.size (wr.heap.size + 1)) _ [c] (LedAt.one13 (Blk.new wr 81 _) (HPR.out.fr (Fr.of_below ((Below.refl wr.heap.size wr).alloc (Nat.le_refl _) _) (fun _ => False)) HD.out.bel.size (fun _ _ _ h => h))) (by have := HD.out.bel.size; simp; omega)).mono ?_
         rintro e w2 ⟨v2, rfl, o2, b2⟩
         obtain ⟨q, cap, pvk, rfl, q1, q2, hr2, hp2⟩ := o2.one
         obtain ⟨A4, c4, hpk, _⟩ := hp2.1.form
         obtain ⟨m4, hm4⟩ : ∃ m4, m4 = c.parts.length := ⟨_, rfl⟩
         rw [← hm4] at hpk
         subst hpk
         have H2 := Lib.hid (And.intro b2 (And.intro hp2 (And.intro hm4 (And.intro q1 q2))))
         clear b2 hp2 hm4 o2 q1 q2)
      | ((with_reducible refine law_load 81 (.tmp 27) q 0 (c.cells (.slice A4 m4 c4)) ?_ hr2 Tryd.underlying81 ?_ ?_ ?_); rfl; rfl; exact cmd_info)
      | ((with_reducible refine law_store_fresh 81 (.tmp 10) (.tmp 28) w2 81 _ (c.cells (.slice A4 m4 c4)).toArray ?_ ?_ rfl ?_ ?_ (cells_oneCell _ _ _ _) ?_); rfl; rfl; exact cmd_info; rfl)
      | fail)
    clear hrng hr2
    have hbw : Below wr.heap.size wr w2 := ((Below.refl wr.heap.size wr).alloc (Nat.le_refl _) _).trans (H2.out.1.mono (by simp))
    refine wp_letter (fun W3 => Below wr.heap.size wr W3 ∧ Blk W3 w2.heap.size 81 (c.cells (.slice A4 m4 c4)).toArray ∧ OwnInts W3 (wr.heap.size + 1) w2.heap.size (.slice A4 m4 c4) c.parts ∧ w2.heap.size ≤ W3.heap.size)
      ⟨hbw.alloc hbw.size _, Blk.new _ _ _, by have := H2.out.2.1.fr (Fr.of_below ((Below.refl w2.heap.size w2).alloc (Nat.le_refl _) (.cells (c.cells (.slice A4 m4 c4)).toArray 81)) (fun _ => False)) (Nat.le_refl _) (fun _ _ _ h => h); simpa using this, by simp⟩ ?_
    rintro W3 ⟨b3, hX3, hp3, hs3⟩
    obtain ⟨lo4, hlo4⟩ : ∃ lo4, lo4 = wr.heap.size + 1 := ⟨_, rfl⟩
    obtain ⟨hi4, hhi4⟩ : ∃ hi4, hi4 = w2.heap.size := ⟨_, rfl⟩
    obtain ⟨x10, hx10⟩ : ∃ x10, x10 = w2.heap.size := ⟨_, rfl⟩
    rw [← hx10] at hX3
    rw [← hlo4, ← hhi4] at hp3
    rw [← hhi4] at hs3
    rw [← hx10]
    have hrk := hX3.range (cs := c.cells (.slice A4 m4 c4))
    have hrc := (HD.out.cmd.below b3 HD.out.cmd.lt).range (cs := c.cells pv)
    have H3 := Lib.hid (And.intro b3 (And.intro hX3 (And.intro hp3 (And.intro hs3 (And.intro (show wr.heap.size ≤ lo4 by omega) (And.intro H2.out.2.2.1 (show x10 = hi4 by omega)))))))
    clear b3 hX3 hp3 hs3 hbw H2 hlo4 hhi4 hx10
    go_upto_region 10 with (first
      | ((with_reducible refine law_load 81 (.tmp 10) x10 0 (c.cells (.slice A4 m4 c4)) ?_ hrk Tryd.underlying81 ?_ ?_ ?_); rfl; rfl; exact cmd_info)
      | (go_at_call 53
         refine (new13_state W3 n c hz _ _ _ H3.out.2.2.1.at_ H3.out.2.2.2.1 (A 1) (((HA.out.2.2.2.1.below HD.out.bel).below H3.out.1) 1 (by simp)) HN.out.1 HN.out.2).mono ?_
         rintro e w4 ⟨rfl, b4⟩
         have hrc4 := ((HD.out.cmd.below H3.out.1 HD.out.cmd.lt).below b4 (Nat.lt_of_lt_of_le HD.out.cmd.lt H3.out.1.size)).range (cs := c.cells pv)
         have H4 := Lib.hid b4
         clear b4)
      | fail)
    have hbW4 : Below W.heap.size W w4 := (HD.out.bel.trans (H3.out.1.mono HD.out.bel.size)).trans (H4.out.mono (Nat.le_trans HD.out.bel.size H3.out.1.size))
    have H5 := Lib.hid hbW4
    clear hbW4
    go_upto_region 11 with (first
      | ((with_reducible refine law_load 81 (.tmp 4) W.heap.size 0 (c.cells pv) ?_ hrc4 Tryd.underlying81 ?_ ?_ ?_); rfl; rfl; exact cmd_info)
      | (go_at_call 63
         refine (rnew63_state w4 n c hz pv 0 W.heap.size (HA.out.2.2.2.2.fr (Fr.of_below H5.out (fun _ => False)) (Nat.le_refl _) (fun _ _ _ h => h)) H5.out.size HN.out.1 HN.out.2).mono ?_
         rintro e w5 ⟨rfl, b5⟩
         have H6 := Lib.hid (H5.out.trans (b5.mono H5.out.size))
         clear b5)
      | fail)
    go_wp2_with (first
      | (go_at_call 64
         refine (num18 (HA.out.2.2.1.fr (Fr.of_below H6.out (fun _ => False)) (Nat.le_refl _) (fun _ _ h => h)) H6.out.size).mono ?_
         rintro e w6 ⟨rfl, b6⟩
         have H7 := Lib.hid (H6.out.trans (b6.mono H6.out.size))
         clear b6)
      | fail)
    go_ret
    exact ⟨rfl, H7.out⟩

set_option maxRecDepth 100000 in
set_option maxHeartbeats 12800000 in
theorem plays13_good (hE : Errs W W.heap.size A G18) (hz : c.Sized) (hp : IntsAt W 0 W.heap.size pv c.parts) (n : Nat) (hn : 1 ≤ n ∧ n ≤ 16) (hc : chkB c = true) (v : Value) (os : List Op13R) (hS : Script13 W v os) :
    Calls Tryd.prog 13 #[.int .i64 n, .agg (c.cells pv).toArray, v] W (Law13 W) := by
  have HN := Lib.hid (And.intro hn hc)
  clear hn hc
  obtain ⟨D, cD, rfl, hlc, hcm, hel⟩ := hS
  obtain ⟨n0, hn0⟩ : ∃ n0, n0 = os.length := ⟨_, rfl⟩
  rw [← hn0] at hlc ⊢
  have hn63 : n0 ≤ 9223372036854775807 := by simp only [maxLen] at hcm; omega
  have HSC := Lib.hid (And.intro hn0 hel)
  clear hn0 hel hlc hcm
  have h13 := E13.of18 hE
  have bA : Below W.heap.size W (W.alloc (.cells (c.cells pv).toArray 81)) := (Below.refl _ _).alloc (Nat.le_refl _) _
  have hX := Blk.new W 81 (c.cells pv).toArray
  have HA := Lib.hid (And.intro bA (And.intro hX (And.intro hE (And.intro h13 hp))))
  clear bA hX hE h13 hp
  go_enter Tryd.func13, Tryd.ntmps13
  go_upto_region 3 with (first | (go_at_call 52; refine (alive13_any _ A (HA.out.2.2.2.1.below HA.out.1)).mono ?_; rintro e w1 ⟨rfl, b1⟩; have H1 := Lib.hid b1; clear b1) | fail)
  go_upto_region 5 with (fail)
  have hb1 := HA.out.1.trans (H1.out.mono HA.out.1.size)
  have hX1 := HA.out.2.1.below H1.out HA.out.2.1.lt
  have hs1 := hb1.size
  have hxl : W.heap.size < w1.heap.size := hX1.lt
  obtain ⟨M0, hM0⟩ : ∃ M0 : Nat → Prop, M0 = fun q => q = w1.heap.size ∨ q = w1.heap.size + 1 := ⟨_, rfl⟩
  refine wp_letter (fun W2 => DuoAt W M0 n 0 w1.heap.size (w1.heap.size + 1) c pv (fun _ => 0) (fun _ => 0) (fun _ => 0) (fun _ _ => False) W2)
    ⟨fun j hj => absurd hj (by omega), fun i j hi => absurd hi (by omega), fun m hm => by rw [hM0] at hm; simp; omega, by rw [hM0]; exact .inl rfl, by rw [hM0]; exact .inr rfl, ⟨_, (Blk.new w1 113 _).alloc _, rfl, fun j hj => absurd hj (by omega)⟩, ⟨_, Blk.new1 w1 _ 115 _, rfl, fun j hj => absurd hj (by omega)⟩, fun j hj => absurd hj (by omega), (hX1.alloc _).alloc _, (hb1.alloc hs1 _).alloc (by simp; omega) _⟩ ?_
  rintro W2 hD2
  obtain ⟨a5, ha5⟩ : ∃ a5, a5 = w1.heap.size := ⟨_, rfl⟩
  obtain ⟨a6, ha6⟩ : ∃ a6, a6 = w1.heap.size + 1 := ⟨_, rfl⟩
  rw [← ha6, ← ha5] at hD2
  rw [← ha6, ← ha5]
  have HD2 := Lib.hid hD2
  obtain ⟨i1, z1, hi1, hz11, hz12, hz13, hz14⟩ := cmd_info'
  clear hb1 hX1 hs1 hxl hD2 ha5 ha6 hM0
  go_wp2_with (fail)
  go_loopw [21] (fun i wr => ∃ (k : Nat) (gs gms Bs : Nat → Nat) (O : Nat → Nat → Prop) (M : Nat → Prop), k ≤ 2 ∧ i = .int .i64 k ∧ Hid (DuoAt W M n k a5 a6 c pv gs gms Bs O wr)) (fun i _ => 2 - (intOf i).toNat)
  case atStart => exact ⟨0, _, _, _, _, M0, by omega, rfl, Lib.hid HD2.out⟩
  case round =>
    obtain ⟨k, gs, gms, Bs, O, M, hk, rfl, HD⟩ := hrel
    have hk3 : k = 0 ∨ k = 1 ∨ k = 2 := by omega
    rcases hk3 with rfl | rfl | rfl
    · clear HD2
      have hrng := HD.out.cmd.range (cs := c.cells pv)
      have hpr : IntsAt wr 0 W.heap.size pv c.parts := HA.out.2.2.2.2.fr (Fr.of_below HD.out.bel (fun _ => False)) (Nat.le_refl _) (fun _ _ _ h => h)
      have HPR := Lib.hid hpr
      clear hpr
      go_upto_region 9 with (first
        | ((with_reducible refine law_load 81 (.tmp 4) W.heap.size 0 (c.cells pv) ?_ hrng Tryd.underlying81 ?_ ?_ ?_); rfl; rfl; exact cmd_info)
        | ((with_reducible refine law_buildSlice1 46 81 (.tmp 24) i1 z1 (c.cells pv).toArray 18 ?_ Tryd.underlying46 hi1 hz11 hz12 hz14 ?_ (by decide) (by decide) ?_); rfl; rfl)
        | (go_at_call 42
           refine (rcopy_any (wr.alloc (.cells (c.cells pv).toArray 81)) 0 (max W.heap.size (wr.heap.size + 1)) _ [c] (LedAt.one13 (Blk.new wr 81 _) (HPR.out.fr (Fr.of_below ((Below.refl wr.heap.size wr).alloc (Nat.le_refl _) _) (fun _ => False)) HD.out.bel.size (fun _ _ _ h => h))) (by have := HD.out.bel.size; simp; omega)).mono ?_
           rintro e w2 ⟨v2, rfl, o2, b2⟩
           obtain ⟨q, cap, pvk, rfl, q1, q2, hr2, hp2⟩ := o2.one
           obtain ⟨A4, c4, hpk, _⟩ := hp2.1.form
           obtain ⟨m4, hm4⟩ : ∃ m4, m4 = c.parts.length := ⟨_, rfl⟩
           rw [← hm4] at hpk
           subst hpk
           have H2 := Lib.hid (And.intro b2 (And.intro hp2 (And.intro hm4 (And.intro q1 q2))))
           clear b2 hp2 hm4 o2 q1 q2)
        | ((with_reducible refine law_load 81 (.tmp 27) q 0 (c.cells (.slice A4 m4 c4)) ?_ hr2 Tryd.underlying81 ?_ ?_ ?_); rfl; rfl; exact cmd_info)
        | ((with_reducible refine law_store_fresh 81 (.tmp 10) (.tmp 28) w2 81 _ (c.cells (.slice A4 m4 c4)).toArray ?_ ?_ rfl ?_ ?_ (cells_oneCell _ _ _ _) ?_); rfl; rfl; exact cmd_info; rfl)
        | fail)
      clear hrng hr2
      have hbw : Below wr.heap.size wr w2 := ((Below.refl wr.heap.size wr).alloc (Nat.le_refl _) _).trans (H2.out.1.mono (by simp))
      refine wp_letter (fun W3 => Below wr.heap.size wr W3 ∧ Blk W3 w2.heap.size 81 (c.cells (.slice A4 m4 c4)).toArray ∧ OwnInts W3 (wr.heap.size + 1) w2.heap.size (.slice A4 m4 c4) c.parts ∧ w2.heap.size ≤ W3.heap.size)
        ⟨hbw.alloc hbw.size _, Blk.new _ _ _, by have := H2.out.2.1.fr (Fr.of_below ((Below.refl w2.heap.size w2).alloc (Nat.le_refl _) (.cells (c.cells (.slice A4 m4 c4)).toArray 81)) (fun _ => False)) (Nat.le_refl _) (fun _ _ _ h => h); simpa using this, by simp⟩ ?_
      rintro W3 ⟨b3, hX3, hp3, hs3⟩
      obtain ⟨lo4, hlo4⟩ : ∃ lo4, lo4 = wr.heap.size + 1 := ⟨_, rfl⟩
      obtain ⟨hi4, hhi4⟩ : ∃ hi4, hi4 = w2.heap.size := ⟨_, rfl⟩
      obtain ⟨x10, hx10⟩ : ∃ x10, x10 = w2.heap.size := ⟨_, rfl⟩
      rw [← hx10] at hX3
      rw [← hlo4, ← hhi4] at hp3
      rw [← hhi4] at hs3
      rw [← hx10]
      have hrk := hX3.range (cs := c.cells (.slice A4 m4 c4))
      have hrc := (HD.out.cmd.below b3 HD.out.cmd.lt).range (cs := c.cells pv)
      have H3 := Lib.hid (And.intro b3 (And.intro hX3 (And.intro hp3 (And.intro hs3 (And.intro (show wr.heap.size ≤ lo4 by omega) (And.intro H2.out.2.2.1 (show x10 = hi4 by omega)))))))
      clear b3 hX3 hp3 hs3 hbw H2 hlo4 hhi4 hx10
      go_upto_region 10 with (first
        | ((with_reducible refine law_load 81 (.tmp 10) x10 0 (c.cells (.slice A4 m4 c4)) ?_ hrk Tryd.underlying81 ?_ ?_ ?_); rfl; rfl; exact cmd_info)
        | (go_at_call 53
           refine (new13_cmd W3 n c hz _ _ _ H3.out.2.2.1.at_ H3.out.2.2.2.1 HN.out.1 (A 1) (((HA.out.2.2.2.1.below HD.out.bel).below H3.out.1) 1 (by simp)) HN.out.2).mono ?_
           intro e w4 hN4
           obtain ⟨ga, pv', he, R4, g1, g2, b4⟩ := RndF.of_new (M := fun q => M q ∨ (lo4 ≤ q ∧ q < hi4)) hN4 (fun m hm => by have := H3.out.1.size; have := H3.out.2.2.2.1; rcases hm with hm | hm; have := (HD.out.lt m hm).2; omega; omega)
           subst he
           have hrc4 := ((HD.out.cmd.below H3.out.1 HD.out.cmd.lt).below b4 (Nat.lt_of_lt_of_le HD.out.cmd.lt H3.out.1.size)).range (cs := c.cells pv)
           have H4 := Lib.hid (And.intro b4 (And.intro R4 (And.intro g1 g2)))
           clear b4 R4 g1 g2 hN4)
        | fail)
      have hbW4 : Below W.heap.size W w4 := (HD.out.bel.trans (H3.out.1.mono HD.out.bel.size)).trans (H4.out.1.mono (Nat.le_trans HD.out.bel.size H3.out.1.size))
      have H5 := Lib.hid hbW4
      clear hbW4
      have hM2 : ∀ m, ((M m ∨ (lo4 ≤ m ∧ m < hi4)) ∨ m = ga ∨ m = ga + 1) → m < 0 ∨ W.heap.size ≤ m := fun m hm => by
        have q0 := HD.out.bel.size
        have q1 := H3.out.1.size
        have q2 := H4.out.2.2.1
        have q3 := H3.out.2.2.2.2.1
        right
        rcases hm with (hm | hm) | hm | hm
        · have := (HD.out.lt m hm).1; omega
        · omega
        · omega
        · omega
      have HM2 := Lib.hid hM2
      clear hM2
      go_upto_region 11 with (first
        | ((with_reducible refine law_load 81 (.tmp 4) W.heap.size 0 (c.cells pv) ?_ hrc4 Tryd.underlying81 ?_ ?_ ?_); rfl; rfl; exact cmd_info)
        | (go_at_call 63
           refine (rnew63_cmd w4 _ n c pv 0 W.heap.size (HA.out.2.2.2.2.fr (Fr.of_below H5.out (fun _ => False)) (Nat.le_refl _) (fun _ _ _ h => h)) H5.out.size HM2.out HN.out.1 hz HN.out.2).mono ?_
           rintro e w5 ⟨gm, he, g3, g4, D5, b5⟩
           subst he
           have H6 := Lib.hid (And.intro b5 (And.intro D5 (And.intro g3 g4)))
           clear b5 D5 g3 g4)
        | fail)
      go_upto_region 15 with (first
        | (go_at_call 64
           refine (num0 (w := w5)).mono ?_
           rintro e w6 ⟨rfl, b6⟩
           have H7 := Lib.hid b6
           clear b6)
        | fail)
      have z3 := H3.out.1.size
      have z4 := H4.out.1.size
      have z5 := H6.out.1.size
      have z6 := H7.out.size
      have b36 : Below W3.heap.size W3 w6 := (H4.out.1.trans (H6.out.1.mono z4)).trans (H7.out.mono (by omega))
      have X6 := H3.out.2.1.below b36 H3.out.2.1.lt
      have p6 := H3.out.2.2.1.fr (Fr.of_below b36 (fun _ => False)) H3.out.2.2.2.1 (fun _ _ _ h => h)
      have c15 : w6.cell? ⟨x10, 15, none⟩ = some (.slice A4 m4 c4) := X6.cell 15
      have HZ := Lib.hid (And.intro (And.intro z3 z4) (And.intro z5 z6))
      have hm63 : m4 ≤ 9223372036854775807 := by have := p6.2; have := H3.out.2.2.2.2.2.1; omega
      have H8 := Lib.hid (And.intro X6 (And.intro p6 H3.out.2.2.2.2.2.2))
      clear z3 z4 z5 z6 b36 X6 p6 hrk hrc hrc4
      go_upto_block 2 with (fail)
      go_cut [] (fun wx => Fr w6.heap.size (fun k => lo4 ≤ k ∧ k < hi4) w6 wx)
      case first =>
        rcases Nat.eq_zero_or_pos m4 with h0 | h0
        · subst h0
          go_wp2_with (fail)
          go_loopw [61] (fun i wr => i = .int .i64 0 ∧ Fr w6.heap.size (fun k => lo4 ≤ k ∧ k < hi4) w6 wr) (fun _ _ => 0)
          case atStart => exact ⟨rfl, Fr.refl _ _ _⟩
          case round =>
            obtain ⟨rfl, hF⟩ := hrel
            go_wp2_with (fail)
            go_meet
            exact hF
        · obtain ⟨g', ds, hA4, e2, e3, e4, e5⟩ := H8.out.2.1.at_cell h0
          subst hA4
          have hne : ¬ x10 = g' := by have := H8.out.2.2; omega
          have hxl := H8.out.1.lt
          have HE := Lib.hid (And.intro e2 (And.intro e3 (And.intro hne hxl)))
          clear hne e2 e3 hxl
          go_wp2_with (fail)
          go_loopw [61] (fun i wi => ∃ j : Nat, j ≤ m4 ∧ i = .int .i64 j ∧ wi.cell? ⟨x10, 15, none⟩ = some (.slice (some ⟨g', 0, none⟩) m4 c4) ∧ (∃ ds, Blk wi g' 3 ds ∧ m4 ≤ ds.size) ∧ Fr w6.heap.size (fun k => lo4 ≤ k ∧ k < hi4) w6 wi) (fun i _ => m4 - (intOf i).toNat)
          case atStart => exact ⟨0, Nat.zero_le _, rfl, c15, ⟨ds, e4, e5⟩, Fr.refl _ _ _⟩
          case round =>
            obtain ⟨j, hj, rfl, c15', ⟨es, hB', hsz⟩, hF'⟩ := hrel
            by_cases hjm : j < m4
            · have hds : j < es.size := by omega
              have hg' := hB'.lt
              have cj : wr.cell? ⟨g', j, none⟩ = some es[j] := (hB'.cell j).trans (Array.getElem?_eq_getElem hds)
              have fj := hB'.frozen j
              have hFt := hF'.setCell (p := ⟨g', j, none⟩) (.inl ⟨HE.out.1, HE.out.2.1⟩) (.int .i64 (-4))
              have ct : (wr.setCell ⟨g', j, none⟩ (.int .i64 (-4))).cell? ⟨x10, 15, none⟩ = some (.slice (some ⟨g', 0, none⟩) m4 c4) := (((Fr.refl wr.heap.size (· = g') wr).setCell (p := ⟨g', j, none⟩) (.inl rfl) (.int .i64 (-4))).cell (p := ⟨x10, 15, none⟩) (World.block_lt_of_cell? wr _ c15') HE.out.2.2.1).trans c15'
              have hBt := hB'.set_ j (.int .i64 (-4))
              have CT := Lib.hid (And.intro ct (And.intro hFt (And.intro hBt hsz)))
              clear ct hFt hBt hB' hsz c15
              go_wp2_with (fail)
              go_roundw
              case rel => exact ⟨j + 1, by omega, by go_num, CT.out.1, ⟨_, CT.out.2.2.1, by simpa using CT.out.2.2.2⟩, CT.out.2.1⟩
              case measure => simp [intOf]; omega
            · have hjm' : j = m4 := by omega
              subst hjm'
              go_wp2_with (fail)
              go_meet
              exact hF'
      case rest =>
        obtain ⟨wd, hwd⟩ : ∃ wd, wd = wc := ⟨_, rfl⟩
        rw [← hwd] at hcut ⊢
        clear hwd c15
        have F6 : Fr w5.heap.size (fun q => lo4 ≤ q ∧ q < hi4) w5 wd := (Fr.of_below H7.out _).trans (hcut.mono HZ.out.2.2 (fun _ _ h => h))
        have hstep := HD.out.add (reads := false) (lo4 := lo4) (hi4 := hi4) (by omega) (by have := HN.out.1.1; omega) H3.out.1 H3.out.2.2.2.2.1 H3.out.2.2.2.1 H4.out.2.1 H4.out.2.2.1 H4.out.2.2.2 H4.out.1 H6.out.2.1 H6.out.2.2.1 H6.out.2.2.2 H6.out.1 F6
        obtain ⟨c5, h5, s5, _⟩ := HD.out.b5
        obtain ⟨c6, h6, s6, _⟩ := HD.out.b6
        have l5 := (HD.out.lt _ HD.out.m5).2
        have l6 := (HD.out.lt _ HD.out.m6).2
        have hne56 : ¬ a6 = a5 := fun e => blk_ne13 h5 h6 (by decide) e.symm
        have hlo4 := H3.out.2.2.2.2.1
        have h35 : Below wr.heap.size wr w5 := (H3.out.1.trans (H4.out.1.mono HZ.out.1.1)).trans (H6.out.1.mono (Nat.le_trans HZ.out.1.1 HZ.out.1.2))
        have q5 := (h5.below h35 l5).fr F6 (Nat.lt_of_lt_of_le l5 h35.size) (fun e => by omega)
        have q6 := (h6.below h35 l6).fr F6 (Nat.lt_of_lt_of_le l6 h35.size) (fun e => by omega)
        have e5 : wd.cell? ⟨a5, 0, none⟩ = some c5[0] := (q5.cell 0).trans (Array.getElem?_eq_getElem (by omega))
        have e6 : wd.cell? ⟨a6, 0, none⟩ = some c6[0] := (q6.cell 0).trans (Array.getElem?_eq_getElem (by omega))
        have f5 := q5.frozen 0
        have f6 := q6.frozen 0
        have n5 : a5 < wd.heap.size := q5.lt
        have n6 : a6 < wd.heap.size := q6.lt
        have HS := Lib.hid hstep
        clear hstep h5 h6 q5 q6 F6 h35 hlo4 l5 l6 hcut
        go_wp2_with (fail)
        go_roundw
        case rel =>
          obtain ⟨M', hM'⟩ := HS.out
          exact ⟨0 + 1, _, _, _, _, M', by omega, by go_num, Lib.hid hM'⟩
        case measure => simp [intOf]
    · clear HD2
      have hrng := HD.out.cmd.range (cs := c.cells pv)
      have hpr : IntsAt wr 0 W.heap.size pv c.parts := HA.out.2.2.2.2.fr (Fr.of_below HD.out.bel (fun _ => False)) (Nat.le_refl _) (fun _ _ _ h => h)
      have HPR := Lib.hid hpr
      clear hpr
      go_upto_region 9 with (first
        | ((with_reducible refine law_load 81 (.tmp 4) W.heap.size 0 (c.cells pv) ?_ hrng Tryd.underlying81 ?_ ?_ ?_); rfl; rfl; exact cmd_info)
        | ((with_reducible refine law_buildSlice1 46 81 (.tmp 24) i1 z1 (c.cells pv).toArray 18 ?_ Tryd.underlying46 hi1 hz11 hz12 hz14 ?_ (by decide) (by decide) ?_); rfl; rfl)
        | (go_at_call 42
           refine (rcopy_any (wr.alloc (.cells (c.cells pv).toArray 81)) 0 (max W.heap.size (wr.heap.size + 1)) _ [c] (LedAt.one13 (Blk.new wr 81 _) (HPR.out.fr (Fr.of_below ((Below.refl wr.heap.size wr).alloc (Nat.le_refl _) _) (fun _ => False)) HD.out.bel.size (fun _ _ _ h => h))) (by have := HD.out.bel.size; simp; omega)).mono ?_
           rintro e w2 ⟨v2, rfl, o2, b2⟩
           obtain ⟨q, cap, pvk, rfl, q1, q2, hr2, hp2⟩ := o2.one
           obtain ⟨A4, c4, hpk, _⟩ := hp2.1.form
           obtain ⟨m4, hm4⟩ : ∃ m4, m4 = c.parts.length := ⟨_, rfl⟩
           rw [← hm4] at hpk
           subst hpk
           have H2 := Lib.hid (And.intro b2 (And.intro hp2 (And.intro hm4 (And.intro q1 q2))))
           clear b2 hp2 hm4 o2 q1 q2)
        | ((with_reducible refine law_load 81 (.tmp 27) q 0 (c.cells (.slice A4 m4 c4)) ?_ hr2 Tryd.underlying81 ?_ ?_ ?_); rfl; rfl; exact cmd_info)
        | ((with_reducible refine law_store_fresh 81 (.tmp 10) (.tmp 28) w2 81 _ (c.cells (.slice A4 m4 c4)).toArray ?_ ?_ rfl ?_ ?_ (cells_oneCell _ _ _ _) ?_); rfl; rfl; exact cmd_info; rfl)
        | fail)
      clear hrng hr2
      have hbw : Below wr.heap.size wr w2 := ((Below.refl wr.heap.size wr).alloc (Nat.le_refl _) _).trans (H2.out.1.mono (by simp))
      refine wp_letter (fun W3 => Below wr.heap.size wr W3 ∧ Blk W3 w2.heap.size 81 (c.cells (.slice A4 m4 c4)).toArray ∧ OwnInts W3 (wr.heap.size + 1) w2.heap.size (.slice A4 m4 c4) c.parts ∧ w2.heap.size ≤ W3.heap.size)
        ⟨hbw.alloc hbw.size _, Blk.new _ _ _, by have := H2.out.2.1.fr (Fr.of_below ((Below.refl w2.heap.size w2).alloc (Nat.le_refl _) (.cells (c.cells (.slice A4 m4 c4)).toArray 81)) (fun _ => False)) (Nat.le_refl _) (fun _ _ _ h => h); simpa using this, by simp⟩ ?_
      rintro W3 ⟨b3, hX3, hp3, hs3⟩
      obtain ⟨lo4, hlo4⟩ : ∃ lo4, lo4 = wr.heap.size + 1 := ⟨_, rfl⟩
      obtain ⟨hi4, hhi4⟩ : ∃ hi4, hi4 = w2.heap.size := ⟨_, rfl⟩
      obtain ⟨x10, hx10⟩ : ∃ x10, x10 = w2.heap.size := ⟨_, rfl⟩
      rw [← hx10] at hX3
      rw [← hlo4, ← hhi4] at hp3
      rw [← hhi4] at hs3
      rw [← hx10]
      have hrk := hX3.range (cs := c.cells (.slice A4 m4 c4))
      have hrc := (HD.out.cmd.below b3 HD.out.cmd.lt).range (cs := c.cells pv)
      have H3 := Lib.hid (And.intro b3 (And.intro hX3 (And.intro hp3 (And.intro hs3 (And.intro (show wr.heap.size ≤ lo4 by omega) (And.intro H2.out.2.2.1 (show x10 = hi4 by omega)))))))
      clear b3 hX3 hp3 hs3 hbw H2 hlo4 hhi4 hx10
      go_upto_region 10 with (first
        | ((with_reducible refine law_load 81 (.tmp 10) x10 0 (c.cells (.slice A4 m4 c4)) ?_ hrk Tryd.underlying81 ?_ ?_ ?_); rfl; rfl; exact cmd_info)
        | (go_at_call 53
           refine (new13_reads W3 n c _ _ _ H3.out.2.2.1.at_ H3.out.2.2.2.1 HN.out.1).mono ?_
           intro e w4 hN4
           obtain ⟨ga, pv', he, R4, g1, g2, b4⟩ := RndF.of_new (M := fun q => M q ∨ (lo4 ≤ q ∧ q < hi4)) hN4 (fun m hm => by have := H3.out.1.size; have := H3.out.2.2.2.1; rcases hm with hm | hm; have := (HD.out.lt m hm).2; omega; omega)
           subst he
           have hrc4 := ((HD.out.cmd.below H3.out.1 HD.out.cmd.lt).below b4 (Nat.lt_of_lt_of_le HD.out.cmd.lt H3.out.1.size)).range (cs := c.cells pv)
           have H4 := Lib.hid (And.intro b4 (And.intro R4 (And.intro g1 g2)))
           clear b4 R4 g1 g2 hN4)
        | fail)
      have hbW4 : Below W.heap.size W w4 := (HD.out.bel.trans (H3.out.1.mono HD.out.bel.size)).trans (H4.out.1.mono (Nat.le_trans HD.out.bel.size H3.out.1.size))
      have H5 := Lib.hid hbW4
      clear hbW4
      have hM2 : ∀ m, ((M m ∨ (lo4 ≤ m ∧ m < hi4)) ∨ m = ga ∨ m = ga + 1) → m < 0 ∨ W.heap.size ≤ m := fun m hm => by
        have q0 := HD.out.bel.size
        have q1 := H3.out.1.size
        have q2 := H4.out.2.2.1
        have q3 := H3.out.2.2.2.2.1
        right
        rcases hm with (hm | hm) | hm | hm
        · have := (HD.out.lt m hm).1; omega
        · omega
        · omega
        · omega
      have HM2 := Lib.hid hM2
      clear hM2
      go_upto_region 11 with (first
        | ((with_reducible refine law_load 81 (.tmp 4) W.heap.size 0 (c.cells pv) ?_ hrc4 Tryd.underlying81 ?_ ?_ ?_); rfl; rfl; exact cmd_info)
        | (go_at_call 63
           refine (rnew63_reads w4 _ n c pv 0 W.heap.size (HA.out.2.2.2.2.fr (Fr.of_below H5.out (fun _ => False)) (Nat.le_refl _) (fun _ _ _ h => h)) H5.out.size HM2.out HN.out.1).mono ?_
           rintro e w5 ⟨gm, he, g3, g4, D5, b5⟩
           subst he
           have H6 := Lib.hid (And.intro b5 (And.intro D5 (And.intro g3 g4)))
           clear b5 D5 g3 g4)
        | fail)
      go_upto_region 15 with (first
        | (go_at_call 64
           refine (num0 (w := w5)).mono ?_
           rintro e w6 ⟨rfl, b6⟩
           have H7 := Lib.hid b6
           clear b6)
        | fail)
      have z3 := H3.out.1.size
      have z4 := H4.out.1.size
      have z5 := H6.out.1.size
      have z6 := H7.out.size
      have b36 : Below W3.heap.size W3 w6 := (H4.out.1.trans (H6.out.1.mono z4)).trans (H7.out.mono (by omega))
      have X6 := H3.out.2.1.below b36 H3.out.2.1.lt
      have p6 := H3.out.2.2.1.fr (Fr.of_below b36 (fun _ => False)) H3.out.2.2.2.1 (fun _ _ _ h => h)
      have c15 : w6.cell? ⟨x10, 15, none⟩ = some (.slice A4 m4 c4) := X6.cell 15
      have HZ := Lib.hid (And.intro (And.intro z3 z4) (And.intro z5 z6))
      have hm63 : m4 ≤ 9223372036854775807 := by have := p6.2; have := H3.out.2.2.2.2.2.1; omega
      have H8 := Lib.hid (And.intro X6 (And.intro p6 H3.out.2.2.2.2.2.2))
      clear z3 z4 z5 z6 b36 X6 p6 hrk hrc hrc4
      go_upto_block 2 with (fail)
      go_cut [] (fun wx => Fr w6.heap.size (fun k => lo4 ≤ k ∧ k < hi4) w6 wx)
      case first =>
        rcases Nat.eq_zero_or_pos m4 with h0 | h0
        · subst h0
          go_wp2_with (fail)
          go_loopw [61] (fun i wr => i = .int .i64 0 ∧ Fr w6.heap.size (fun k => lo4 ≤ k ∧ k < hi4) w6 wr) (fun _ _ => 0)
          case atStart => exact ⟨rfl, Fr.refl _ _ _⟩
          case round =>
            obtain ⟨rfl, hF⟩ := hrel
            go_wp2_with (fail)
            go_meet
            exact hF
        · obtain ⟨g', ds, hA4, e2, e3, e4, e5⟩ := H8.out.2.1.at_cell h0
          subst hA4
          have hne : ¬ x10 = g' := by have := H8.out.2.2; omega
          have hxl := H8.out.1.lt
          have HE := Lib.hid (And.intro e2 (And.intro e3 (And.intro hne hxl)))
          clear hne e2 e3 hxl
          go_wp2_with (fail)
          go_loopw [61] (fun i wi => ∃ j : Nat, j ≤ m4 ∧ i = .int .i64 j ∧ wi.cell? ⟨x10, 15, none⟩ = some (.slice (some ⟨g', 0, none⟩) m4 c4) ∧ (∃ ds, Blk wi g' 3 ds ∧ m4 ≤ ds.size) ∧ Fr w6.heap.size (fun k => lo4 ≤ k ∧ k < hi4) w6 wi) (fun i _ => m4 - (intOf i).toNat)
          case atStart => exact ⟨0, Nat.zero_le _, rfl, c15, ⟨ds, e4, e5⟩, Fr.refl _ _ _⟩
          case round =>
            obtain ⟨j, hj, rfl, c15', ⟨es, hB', hsz⟩, hF'⟩ := hrel
            by_cases hjm : j < m4
            · have hds : j < es.size := by omega
              have hg' := hB'.lt
              have cj : wr.cell? ⟨g', j, none⟩ = some es[j] := (hB'.cell j).trans (Array.getElem?_eq_getElem hds)
              have fj := hB'.frozen j
              have hFt := hF'.setCell (p := ⟨g', j, none⟩) (.inl ⟨HE.out.1, HE.out.2.1⟩) (.int .i64 (-4))
              have ct : (wr.setCell ⟨g', j, none⟩ (.int .i64 (-4))).cell? ⟨x10, 15, none⟩ = some (.slice (some ⟨g', 0, none⟩) m4 c4) := (((Fr.refl wr.heap.size (· = g') wr).setCell (p := ⟨g', j, none⟩) (.inl rfl) (.int .i64 (-4))).cell (p := ⟨x10, 15, none⟩) (World.block_lt_of_cell? wr _ c15') HE.out.2.2.1).trans c15'
              have hBt := hB'.set_ j (.int .i64 (-4))
              have CT := Lib.hid (And.intro ct (And.intro hFt (And.intro hBt hsz)))
              clear ct hFt hBt hB' hsz c15
              go_wp2_with (fail)
              go_roundw
              case rel => exact ⟨j + 1, by omega, by go_num, CT.out.1, ⟨_, CT.out.2.2.1, by simpa using CT.out.2.2.2⟩, CT.out.2.1⟩
              case measure => simp [intOf]; omega
            · have hjm' : j = m4 := by omega
              subst hjm'
              go_wp2_with (fail)
              go_meet
              exact hF'
      case rest =>
        obtain ⟨wd, hwd⟩ : ∃ wd, wd = wc := ⟨_, rfl⟩
        rw [← hwd] at hcut ⊢
        clear hwd c15
        have F6 : Fr w5.heap.size (fun q => lo4 ≤ q ∧ q < hi4) w5 wd := (Fr.of_below H7.out _).trans (hcut.mono HZ.out.2.2 (fun _ _ h => h))
        have hstep := HD.out.add (reads := true) (lo4 := lo4) (hi4 := hi4) (by omega) (by have := HN.out.1.1; omega) H3.out.1 H3.out.2.2.2.2.1 H3.out.2.2.2.1 H4.out.2.1 H4.out.2.2.1 H4.out.2.2.2 H4.out.1 H6.out.2.1 H6.out.2.2.1 H6.out.2.2.2 H6.out.1 F6
        obtain ⟨c5, h5, s5, _⟩ := HD.out.b5
        obtain ⟨c6, h6, s6, _⟩ := HD.out.b6
        have l5 := (HD.out.lt _ HD.out.m5).2
        have l6 := (HD.out.lt _ HD.out.m6).2
        have hne56 : ¬ a6 = a5 := fun e => blk_ne13 h5 h6 (by decide) e.symm
        have hlo4 := H3.out.2.2.2.2.1
        have h35 : Below wr.heap.size wr w5 := (H3.out.1.trans (H4.out.1.mono HZ.out.1.1)).trans (H6.out.1.mono (Nat.le_trans HZ.out.1.1 HZ.out.1.2))
        have q5 := (h5.below h35 l5).fr F6 (Nat.lt_of_lt_of_le l5 h35.size) (fun e => by omega)
        have q6 := (h6.below h35 l6).fr F6 (Nat.lt_of_lt_of_le l6 h35.size) (fun e => by omega)
        have e5 : wd.cell? ⟨a5, 1, none⟩ = some c5[1] := (q5.cell 1).trans (Array.getElem?_eq_getElem (by omega))
        have e6 : wd.cell? ⟨a6, 1, none⟩ = some c6[1] := (q6.cell 1).trans (Array.getElem?_eq_getElem (by omega))
        have f5 := q5.frozen 1
        have f6 := q6.frozen 1
        have n5 : a5 < wd.heap.size := q5.lt
        have n6 : a6 < wd.heap.size := q6.lt
        have HS := Lib.hid hstep
        clear hstep h5 h6 q5 q6 F6 h35 hlo4 l5 l6 hcut
        go_wp2_with (fail)
        go_roundw
        case rel =>
          obtain ⟨M', hM'⟩ := HS.out
          exact ⟨1 + 1, _, _, _, _, M', by omega, by go_num, Lib.hid hM'⟩
        case measure => simp [intOf]
    · obtain ⟨w0, hw0⟩ : ∃ w0, w0 = wr := ⟨_, rfl⟩
      rw [← hw0] at HD ⊢
      clear hw0 HD2
      go_wp2_with (fail)
      go_loopw [78] (fun i wr => ∃ (t : Nat) (O : Nat → Nat → Prop) (M : Nat → Prop), t ≤ n0 ∧ i = .int .i64 t ∧ Hid (DuoAt W M n 2 a5 a6 c pv gs gms Bs O wr)) (fun i _ => n0 - (intOf i).toNat)
      case atStart => exact ⟨0, _, M, Nat.zero_le _, rfl, HD⟩
      case round =>
        obtain ⟨t, O, M, ht, rfl, HP⟩ := hrel
        by_cases hlt : t < n0
        · obtain ⟨o, ho⟩ : ∃ o, os[t]? = some o := ⟨_, List.getElem?_eq_getElem (by have := HSC.out.1; omega)⟩
          obtain ⟨b, q, rfl, hbW, hrg, hL⟩ := HSC.out.2 t o ho
          have hrange : wr.rangeAt b (q + t * 8) o.cells := rangeAt_fr hrg (Fr.of_below HP.out.bel (fun _ => False)) hbW (fun h => h)
          have hone : o.cells.toArray.all (·.oneCell') = true := by
            obtain ⟨A1, c1, _, e1, _⟩ := hL
            simp [Op13R.cells, e1, Value.oneCell']
          clear hrg ho
          go_upto_region 25 with (first
            | ((with_reducible refine law_load 120 (.tmp 80) b (q + t * 8) o.cells ?_ hrange Tryd.underlying120 ?_ ?_ ?_); rfl; rfl; exact op13_info)
            | ((with_reducible refine law_store_fresh 120 (.tmp 17) (.tmp 81) wr 120 _ o.cells.toArray ?_ ?_ rfl ?_ ?_ hone ?_); rfl; rfl; exact op13_info; rfl)
            | fail)
          refine wp_letter (fun W3 => DuoAt W M n 2 a5 a6 c pv gs gms Bs O W3 ∧ Blk W3 wr.heap.size 120 o.cells.toArray) ⟨HP.out.below ((Below.refl _ _).alloc (Nat.le_refl _) _), Blk.new _ _ _⟩ ?_
          rintro W3 ⟨hP3, hO⟩
          obtain ⟨x, hx⟩ : ∃ x, x = wr.heap.size := ⟨_, rfl⟩
          have hxM : ∀ m, M m → m < x := fun m hm => by rw [hx]; exact (HP.out.lt m hm).2
          rw [← hx] at hO ⊢
          obtain ⟨kind, which, from_, br, bn, ar, an, ov, led⟩ := o
          simp only at hL
          have cO := hO.cell
          simp only [Op13R.cells] at cO
          obtain ⟨j, hj, hwj⟩ := i64_and1 which
          have hj1 : (j : Int) < 2 := by omega
          have HO := Lib.hid (And.intro hP3 (And.intro hO (And.intro hxM (And.intro hL hj))))
          clear hP3 hO hxM hL hrange hone hx
          go_upto_region 26 with (fail)
          have T := HO.out.1.below (Below.refl W3.heap.size W3).drew
          have X := HO.out.2.1.drew
          obtain ⟨c5, h5, s5, k5⟩ := T.b5
          obtain ⟨c6, h6, s6, k6⟩ := T.b6
          have q5 : (W3.drew).cell? ⟨a5, j, none⟩ = some (.pointer (some ⟨gs j, 0, none⟩)) := (h5.cell j).trans (k5 j HO.out.2.2.2.2)
          have q6 : (W3.drew).cell? ⟨a6, j, none⟩ = some (.pointer (some ⟨gms j, 0, none⟩)) := (h6.cell j).trans (k6 j HO.out.2.2.2.2)
          have q5' : W3.cell? ⟨a5, j, none⟩ = some (.pointer (some ⟨gs j, 0, none⟩)) := q5
          have q6' : W3.cell? ⟨a6, j, none⟩ = some (.pointer (some ⟨gms j, 0, none⟩)) := q6
          have HTX := Lib.hid (And.intro T X)
          clear T X h5 s5 k5 h6 s6 k6
          go_region_held3 (fun w' => w'.cell? ⟨a5, j, none⟩ = some (.pointer (some ⟨gs j, 0, none⟩)) ∧ w'.cell? ⟨a6, j, none⟩ = some (.pointer (some ⟨gms j, 0, none⟩)) ∧ w'.cell? ⟨x, 0, none⟩ = some (.int .i64 kind) ∧ w'.cell? ⟨x, 1, none⟩ = some (.int .i64 which) ∧ w'.cell? ⟨x, 2, none⟩ = some (.int .i64 from_) ∧ w'.cell? ⟨x, 3, none⟩ = some (.int .i64 br) ∧ w'.cell? ⟨x, 4, none⟩ = some (.int .i64 bn) ∧ w'.cell? ⟨x, 5, none⟩ = some (.int .i64 ar) ∧ w'.cell? ⟨x, 6, none⟩ = some (.int .i64 an) ∧ w'.cell? ⟨x, 7, none⟩ = some ov) (go_keep)
            (first
              | (go_at_call 65
                 refine (play13_any (HTX.out.1.pair j HO.out.2.2.2.2) (fun m hm => (HTX.out.1.lt m hm).2) (HA.out.2.2.1.fr (Fr.of_below HTX.out.1.bel (fun _ => False)) (Nat.le_refl _) (fun _ _ h => h)) HTX.out.1.bel.size (fun m hm => Nat.le_of_lt (HTX.out.1.lt m hm).1) kind which from_ br bn ar an ov led 0 W.heap.size (HO.out.2.2.2.1.fr (Fr.of_below HTX.out.1.bel (fun _ => False)) (Nat.le_refl _) (fun _ _ _ h => h)) HTX.out.1.bel.size (fun m hm => .inr (Nat.le_of_lt (HTX.out.1.lt m hm).1))).mono ?_
                 rintro e wA ⟨rfl, hpA⟩
                 have XA := HTX.out.2.fr hpA.frame HTX.out.2.lt (fun e => by have := HO.out.2.2.1 _ ((HTX.out.1.pair j HO.out.2.2.2.2).om _ e); omega)
                 obtain ⟨M', O', T'⟩ := HTX.out.1.play HO.out.2.2.2.2 hpA
                 obtain ⟨c5', h5', s5', k5'⟩ := T'.b5
                 obtain ⟨c6', h6', s6', k6'⟩ := T'.b6
                 have q5A : wA.cell? ⟨a5, j, none⟩ = some (.pointer (some ⟨gs j, 0, none⟩)) := (h5'.cell j).trans (k5' j HO.out.2.2.2.2)
                 have q6A : wA.cell? ⟨a6, j, none⟩ = some (.pointer (some ⟨gms j, 0, none⟩)) := (h6'.cell j).trans (k6' j HO.out.2.2.2.2)
                 have cXA := XA.cell
                 simp only [Op13R.cells] at cXA
                 have HA2 := Lib.hid (And.intro T' XA)
                 clear hpA XA T' h5' s5' k5' h6' s6' k6')
              | (go_at_call 66
                 refine (asks13_any (HA2.out.1.pair j HO.out.2.2.2.2) (A 10) ((HA.out.2.2.2.1.below HA2.out.1.bel) 10 (by simp))).mono ?_
                 rintro e wB ⟨rfl, bB⟩
                 have TB := HA2.out.1.below bB
                 have XB := HA2.out.2.below bB HA2.out.2.lt
                 obtain ⟨c5', h5', s5', k5'⟩ := TB.b5
                 obtain ⟨c6', h6', s6', k6'⟩ := TB.b6
                 have q5B : wB.cell? ⟨a5, j, none⟩ = some (.pointer (some ⟨gs j, 0, none⟩)) := (h5'.cell j).trans (k5' j HO.out.2.2.2.2)
                 have q6B : wB.cell? ⟨a6, j, none⟩ = some (.pointer (some ⟨gms j, 0, none⟩)) := (h6'.cell j).trans (k6' j HO.out.2.2.2.2)
                 have cXB := XB.cell
                 simp only [Op13R.cells] at cXB
                 have HB2 := Lib.hid TB
                 clear bB TB XB h5' s5' k5' h6' s6' k6'))
          clear q5 q6 q5' q6' cO
          go_wp2_with (fail)
          refine ⟨?_, ?_⟩
          · (repeat apply Exists.intro)
            refine ⟨?_, rfl⟩
            exact ⟨t + 1, _, _, by omega, by go_num, HB2⟩
          · simp [intOf]; omega
        · have hbel := HP.out.bel
          have hnt : t = n0 := by omega
          subst hnt
          go_wp2_with (fail)
          go_ret
          exact ⟨rfl, hbel⟩
end
end Go.Proofs.YtnlncfjibbdimaaDoor

namespace Go.Proofs.YtnlncfjibbdimaaDoor
open Go.ChangeShapes Go.WideShapes Go.ChangeAt Go.RowKit Go.Deep
set_option linter.unusedSimpArgs false
set_option linter.unusedVariables false

section
variable {H : Type} {enc : TypeId × Value → H} {w : World} {base : Nat} {spare : Nat → Bool} {held : Bool} {fuel : Nat} {cs : List Value} {x : DataW H × List MemPlace}
theorem trod_piece_pl (h : DataW.trod enc Tryd.prog w base spare held fuel 79 cs = some x) : ∃ a b c z s, cs = [.int .i64 a, .int .i64 b, .int .i64 c, .int .i64 z, .string s] ∧ s.size ≤ maxLen := by
  have hlen := trod_len Tryd.underlying79 h
  obtain ⟨_, _, h0⟩ := trod_field Tryd.underlying79 h 0 _ rfl
  obtain ⟨_, _, h1⟩ := trod_field Tryd.underlying79 h 1 _ rfl
  obtain ⟨_, _, h2⟩ := trod_field Tryd.underlying79 h 2 _ rfl
  rw [cellsOf79] at hlen
  obtain ⟨a, b, c, e0, _⟩ := trod_id h0
  obtain ⟨z, e1, _⟩ := trod_i64 h1
  obtain ⟨s, e2, zs⟩ := trod_str h2
  clear h h0 h1 h2
  obtain ⟨c0, c1, c2, c3, c4, rfl⟩ := list5 hlen
  simp [cellsOf3, cellsOf74, cells9] at e0 e1 e2
  exact ⟨a, b, c, z, s, by rw [e0.1, e0.2.1, e0.2.2, e1, e2], zs⟩

theorem open_cmd_pl13 (h : DataW.trod enc Tryd.prog w base spare held fuel 81 cs = some x) (hx : Light 81 x.1) : ∃ c, CmdAt w 0 w.heap.size cs c ∧ c.Sized := by
  have hlen := trod_len Tryd.underlying81 h
  obtain ⟨_, _, h0⟩ := trod_field Tryd.underlying81 h 0 _ rfl
  obtain ⟨_, _, h1⟩ := trod_field Tryd.underlying81 h 1 _ rfl
  obtain ⟨_, _, h2⟩ := trod_field Tryd.underlying81 h 2 _ rfl
  obtain ⟨_, _, h3⟩ := trod_field Tryd.underlying81 h 3 _ rfl
  obtain ⟨_, _, h4⟩ := trod_field Tryd.underlying81 h 4 _ rfl
  obtain ⟨_, _, h5⟩ := trod_field Tryd.underlying81 h 5 _ rfl
  obtain ⟨_, _, h6⟩ := trod_field Tryd.underlying81 h 6 _ rfl
  obtain ⟨_, _, h7, l7⟩ := light_field Tryd.underlying81 h hx 7 _ rfl
  obtain ⟨_, _, h8⟩ := trod_field Tryd.underlying81 h 8 _ rfl
  obtain ⟨_, _, h9⟩ := trod_field Tryd.underlying81 h 9 _ rfl
  rw [cellsOf81] at hlen
  obtain ⟨kind, e0, _⟩ := trod_i64 h0
  obtain ⟨i1, i2, i3, e1, _⟩ := trod_id h1
  obtain ⟨bu, e2, zb⟩ := trod_str h2
  obtain ⟨ke, e3, zk⟩ := trod_str h3
  obtain ⟨u1, u2, u3, e4, _⟩ := trod_id h4
  obtain ⟨p1, p2, p3, pz, pe, e5, ze⟩ := trod_piece_pl h5
  obtain ⟨part, e6, _⟩ := trod_i64 h6
  obtain ⟨pv, parts, e7, hi, _⟩ := open_intsAt h7 l7
  obtain ⟨time, e8, _⟩ := trod_i64 h8
  obtain ⟨days, e9, _⟩ := trod_i64 h9
  clear h h0 h1 h2 h3 h4 h5 h6 h7 h8 h9 l7 hx
  obtain ⟨c0, c1, c2, c3, c4, c5, c6, c7, c8, c9, c10, c11, c12, c13, c14, c15, c16, c17, rfl⟩ := list18 hlen
  simp [cellsOf3, cellsOf74, cells9, cellsOf79, cellsOf40] at e0 e1 e2 e3 e4 e5 e6 e7 e8 e9
  refine ⟨⟨kind, i1, i2, i3, bu, ke, u1, u2, u3, p1, p2, p3, pz, pe, part, parts, time, days⟩, ⟨pv, ?_, hi⟩, zb, zk, ze⟩
  simp only [Cmd.cells, e0, e1.1, e1.2.1, e1.2.2, e2, e3, e4.1, e4.2.1, e4.2.2, e5.1, e5.2.1, e5.2.2.1, e5.2.2.2.1, e5.2.2.2.2, e6, e7, e8, e9]

theorem cellsOf120 : Tryd.prog.cellsOf 120 = 8 := by kernel_rfl
theorem bytesOf120 : Tryd.prog.bytesOf 120 = 80 := by kernel_rfl
theorem list8 {α : Type} {l : List α} (h : l.length = 8) : ∃ a b c d e f g i, l = [a, b, c, d, e, f, g, i] := by
  match l, h with
  | [a, b, c, d, e, f, g, i], _ => exact ⟨a, b, c, d, e, f, g, i, rfl⟩
theorem open_op13 (h : DataW.trod enc Tryd.prog w base spare held fuel 120 cs = some x) (hx : Light 120 x.1) : ∃ o : Op13R, cs = o.cells ∧ LedAt w 0 w.heap.size o.lv o.led := by
  have hlen := trod_len Tryd.underlying120 h
  obtain ⟨_, _, h0⟩ := trod_field Tryd.underlying120 h 0 _ rfl
  obtain ⟨_, _, h1⟩ := trod_field Tryd.underlying120 h 1 _ rfl
  obtain ⟨_, _, h2⟩ := trod_field Tryd.underlying120 h 2 _ rfl
  obtain ⟨_, _, h3⟩ := trod_field Tryd.underlying120 h 3 _ rfl
  obtain ⟨_, _, h4⟩ := trod_field Tryd.underlying120 h 4 _ rfl
  obtain ⟨_, _, h5, l5⟩ := light_field Tryd.underlying120 h hx 5 _ rfl
  rw [cellsOf120] at hlen
  obtain ⟨kind, e0, _⟩ := trod_i64 h0
  obtain ⟨which, e1, _⟩ := trod_i64 h1
  obtain ⟨from_, e2, _⟩ := trod_i64 h2
  obtain ⟨br, bn, e3, _⟩ := trod_bal h3
  obtain ⟨ar, an, e4, _⟩ := trod_bal h4
  obtain ⟨v, l, e5, hl⟩ := open_led h5 l5
  clear h h0 h1 h2 h3 h4 h5 l5 hx
  obtain ⟨c0, c1, c2, c3, c4, c5, c6, c7, rfl⟩ := list8 hlen
  simp [cellsOf3, cellsOf23, cellsOf46] at e0 e1 e2 e3 e4 e5
  exact ⟨⟨kind, which, from_, br, bn, ar, an, v, l⟩, by simp only [Op13R.cells, e0, e1, e2, e3.1, e3.2, e4.1, e4.2, e5], hl⟩
instance : Inhabited Op13R := ⟨⟨0, 0, 0, 0, 0, 0, 0, .slice none 0 0, []⟩⟩
theorem open_script13 (h : DataW.trod enc Tryd.prog w base spare held fuel 112 cs = some x) (hx : Light 112 x.1) : ∃ v os, cs = [v] ∧ Script13 w v os := by
  obtain ⟨A, n, c, rfl, h1, h2, h3, h4⟩ := open_rows 8 80 Tryd.underlying112 cellsOf120 bytesOf120 h hx
  obtain ⟨f, hf⟩ := choose_lt (α := Op13R) (n := n) (p := fun i o => ∃ b k, A = some ⟨b, k, none⟩ ∧ b < w.heap.size ∧ w.rangeAt b (k + i * 8) o.cells ∧ LedAt w 0 w.heap.size o.lv o.led) (fun i hi => by
    obtain ⟨ad, cs', m, y, e1, e2, e3, e4, e5⟩ := h4 i hi
    obtain ⟨o, rfl, ho⟩ := open_op13 e4 e5
    obtain ⟨b, k, sp⟩ := ad
    obtain ⟨ad0, cs0, _, _, e10, e20, _, e40, e50⟩ := h4 0 (by omega)
    obtain ⟨o0, rfl, _⟩ := open_op13 e40 e50
    have hsp : sp = none := by
      have e : (⟨b, k, sp⟩ : Addr) = ad0 := by rw [e1] at e10; exact Option.some.inj e10
      have h1 := e20 0 (by omega)
      rw [← e] at h1
      have h2 : (o0.cells)[0]? = some (.int .i64 o0.kind) := rfl
      rw [h2] at h1
      simpa [Addr.add] using World.cell?_spot h1
    subst hsp
    refine ⟨o, b, k, e1, ?_, fun j v hv => ?_, ho⟩
    · have hc := e2 0 (by omega)
      have := World.block_lt_of_cell? w _ (hc.trans (rfl : o.cells[0]? = some _))
      rwa [block_of_add] at this
    · have hj : j < 8 := (List.getElem?_eq_some_iff.1 hv).1
      have := e2 j hj
      rw [Addr.add_mid] at this
      rw [← hv, ← this, Nat.add_assoc])
  have hlen : ((List.range n).map f).length = n := by simp
  refine ⟨_, (List.range n).map f, rfl, A, c, by rw [hlen], by rw [hlen]; exact h1, h2, ?_⟩
  intro i o ho
  have hi : i < n := by have := (List.getElem?_eq_some_iff.1 ho).1; simpa using this
  simp [hi] at ho
  subst ho
  exact hf i hi
end

def sentsRoundPlays : List (String × Nat × List UInt8) := [("bollard/api.ErrParams", 5, [98, 111, 108, 108, 97, 114, 100, 58, 32, 112, 97, 114, 97, 109, 115]), ("bollard/api.ErrNumber", 0, [98, 111, 108, 108, 97, 114, 100, 58, 32, 110, 117, 109, 98, 101, 114]), ("bollard/api.ErrData", 6, [98, 111, 108, 108, 97, 114, 100, 58, 32, 100, 97, 116, 97]), ("bollard/api.ErrLost", 7, [98, 111, 108, 108, 97, 114, 100, 58, 32, 108, 111, 115, 116]), ("bollard/api.ErrBytes", 2, [98, 111, 108, 108, 97, 114, 100, 58, 32, 98, 121, 116, 101, 115]), ("bollard/api.ErrDigest", 8, [98, 111, 108, 108, 97, 114, 100, 58, 32, 100, 105, 103, 101, 115, 116]), ("bollard/api.ErrName", 9, [98, 111, 108, 108, 97, 114, 100, 58, 32, 110, 97, 109, 101]), ("bollard/api.ErrGone", 10, [98, 111, 108, 108, 97, 114, 100, 58, 32, 103, 111, 110, 101]), ("bollard/api.ErrThere", 11, [98, 111, 108, 108, 97, 114, 100, 58, 32, 116, 104, 101, 114, 101]), ("bollard/api.ErrFull", 4, [98, 111, 108, 108, 97, 114, 100, 58, 32, 102, 117, 108, 108]), ("bollard/api.ErrLarge", 12, [98, 111, 108, 108, 97, 114, 100, 58, 32, 108, 97, 114, 103, 101]), ("bollard/api.ErrBallot", 3, [98, 111, 108, 108, 97, 114, 100, 58, 32, 98, 97, 108, 108, 111, 116]), ("bollard/api.ErrRequest", 13, [98, 111, 108, 108, 97, 114, 100, 58, 32, 114, 101, 113, 117, 101, 115, 116]), ("bollard/api.ErrUri", 14, [98, 111, 108, 108, 97, 114, 100, 58, 32, 117, 114, 105]), ("bollard/api.ErrDenied", 15, [98, 111, 108, 108, 97, 114, 100, 58, 32, 100, 101, 110, 105, 101, 100]), ("bollard/api.ErrSkew", 16, [98, 111, 108, 108, 97, 114, 100, 58, 32, 115, 107, 101, 119]), ("bollard/api.ErrMethod", 17, [98, 111, 108, 108, 97, 114, 100, 58, 32, 109, 101, 116, 104, 111, 100]), ("bollard/api.ErrState", 1, [98, 111, 108, 108, 97, 114, 100, 58, 32, 115, 116, 97, 116, 101])]
theorem sentsRoundPlays_ok : ∀ x ∈ sentsRoundPlays, SentOk x := by
  intro x hx
  simp only [sentsRoundPlays, List.mem_cons, List.not_mem_nil, or_false] at hx
  rcases hx with rfl | rfl | rfl | rfl | rfl | rfl | rfl | rfl | rfl | rfl | rfl | rfl | rfl | rfl | rfl | rfl | rfl | rfl
  · exact ⟨by kernel_rfl, by kernel_rfl⟩
  · exact ⟨by kernel_rfl, by kernel_rfl⟩
  · exact ⟨by kernel_rfl, by kernel_rfl⟩
  · exact ⟨by kernel_rfl, by kernel_rfl⟩
  · exact ⟨by kernel_rfl, by kernel_rfl⟩
  · exact ⟨by kernel_rfl, by kernel_rfl⟩
  · exact ⟨by kernel_rfl, by kernel_rfl⟩
  · exact ⟨by kernel_rfl, by kernel_rfl⟩
  · exact ⟨by kernel_rfl, by kernel_rfl⟩
  · exact ⟨by kernel_rfl, by kernel_rfl⟩
  · exact ⟨by kernel_rfl, by kernel_rfl⟩
  · exact ⟨by kernel_rfl, by kernel_rfl⟩
  · exact ⟨by kernel_rfl, by kernel_rfl⟩
  · exact ⟨by kernel_rfl, by kernel_rfl⟩
  · exact ⟨by kernel_rfl, by kernel_rfl⟩
  · exact ⟨by kernel_rfl, by kernel_rfl⟩
  · exact ⟨by kernel_rfl, by kernel_rfl⟩
  · exact ⟨by kernel_rfl, by kernel_rfl⟩

set_option maxRecDepth 100000 in
theorem roundPlays_walk : LawWalk 13 Tryd.f13 (sentsRoundPlays.map (·.2.1)) := by
  intro H enc W base args ds p A hA hval hsz hlt hE
  rw [Tryd.params13] at hA hval hsz
  obtain ⟨v0, vs0, d0, ds0, p0, q0, hargs, rfl, rfl, h0, r0⟩ := trodAll_cons hA
  obtain ⟨v1, vs1, d1, ds1, p1, q1, hargs1, rfl, rfl, h1, r1⟩ := trodAll_cons r0
  obtain ⟨v2, vs2, d2, ds2, p2, q2, hargs2, rfl, rfl, h2, r2⟩ := trodAll_cons r1
  obtain ⟨rfl, rfl, rfl⟩ := trodAll_nil r2
  obtain rfl : args = #[v0, v1, v2] := by cases args; simp_all
  have hl1 : Light 81 d1 := light_of_each (j := 1) hsz rfl rfl
  have hl2 : Light 112 d2 := light_of_each (j := 2) hsz rfl rfl
  have c0 := arg_int' Tryd.underlying3 (hval 0 3 v0 rfl rfl)
  have c2 := arg_slice' Tryd.underlying112 (hval 2 112 v2 rfl rfl)
  obtain ⟨cs1, rfl, _⟩ := okWide_struct Tryd.underlying81 (hval 1 81 v1 rfl rfl)
  obtain ⟨f0, h0⟩ := h0
  obtain ⟨f1, h1⟩ := h1
  obtain ⟨f2, h2⟩ := h2
  rw [c0] at h0
  rw [c2] at h2
  obtain ⟨nodes, e0, _⟩ := trod_i64 h0
  obtain ⟨c, ⟨pv, hcs, hp⟩, hz⟩ := open_cmd_pl13 h1 hl1
  obtain ⟨ov, os, e2, hO⟩ := open_script13 h2 hl2
  injection e0 with e0 _
  injection e2 with e2 _
  have ec : cs1 = (c.cells pv).toArray := by
    have e : (Value.agg cs1).cells.toList = cs1.toList := rfl
    rw [e] at hcs
    rw [← Array.toArray_toList (xs := cs1), hcs]
  subst e0 ec e2
  have hG : sentsRoundPlays.map (·.2.1) = G18 := rfl
  rw [hG] at hE
  by_cases hn : nodes < 1 ∨ 16 < nodes
  · obtain ⟨D, cD, rfl, _⟩ := hO
    exact plays13_num hE hz hp nodes hn D _ cD
  · obtain ⟨n, rfl⟩ : ∃ n : Nat, nodes = n := ⟨nodes.toNat, by omega⟩
    cases hc : chkB c with
    | false =>
      obtain ⟨D, cD, rfl, _⟩ := hO
      exact plays13_state hE hz hp n (by omega) hc D _ cD
    | true => exact plays13_good hE hz hp n (by omega) hc v2 os hO
end Go.Proofs.YtnlncfjibbdimaaDoor
