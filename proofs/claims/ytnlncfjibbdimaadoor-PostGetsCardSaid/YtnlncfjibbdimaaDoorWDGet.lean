/-
  The walk of the document's Get over any bytes.
-/
import Derived.Test.YtnlncfjibbdimaaDoorURdX
import Derived.Test.YtnlncfjibbdimaaDoorURdrA
import Derived.Test.YtnlncfjibbdimaaDoorUSameL
import Derived.Test.YtnlncfjibbdimaaDoorULaws
import Derived.Test.YtnlncfjibbdimaaDoorUBase
import Derived.Test.YtnlncfjibbdimaaDoorUSameC
import Derived.Test.YtnlncfjibbdimaaDoorULex
import Derived.Test.YtnlncfjibbdimaaDoorUNames5
import Derived.Test.YtnlncfjibbdimaaDoorUCheck
import Derived.Test.YtnlncfjibbdimaaDoorUPiece
import Derived.Test.YtnlncfjibbdimaaDoorUKind
import Derived.Test.YtnlncfjibbdimaaDoorUGetZ
import Derived.Test.YtnlncfjibbdimaaDoorURdr6
import Derived.Test.YtnlncfjibbdimaaDoorURdr8
import Derived.Test.YtnlncfjibbdimaaDoorUInLaw
import Derived.Test.YtnlncfjibbdimaaDoorUInForm
import Derived.Test.YtnlncfjibbdimaaDoorUReadX
import Derived.Test.YtnlncfjibbdimaaDoorUDGet
import Derived.Test.YtnlncfjibbdimaaDoorWRefX
namespace Go.Proofs.YtnlncfjibbdimaaDoor
open Go.RowKit
set_option linter.unusedSimpArgs false
set_option linter.unusedVariables false
section
variable {bs : List Nat} {A : Option Addr} {c hi g p n most : Nat} {w w' : World} {e : Ending}
theorem TakePost.flag (h : TakePost n bs A c hi g p w e w') : ∃ (q : Nat) (ok : Bool) (v : Value) (xs : List Int), e = .returned (.tuple #[v, .bool ok]) ∧ DRd w' hi g bs A c q ∧ Fr w.heap.size (fun k => k = g) w w' ∧
    (ok = true → pNums n (bs.drop p) = some (xs, bs.drop q) ∧ OwnInts w' w.heap.size w'.heap.size v xs) ∧ (ok = false → pNums n (bs.drop p) = none) := by
  obtain ⟨q, h1, h2, ⟨xs, A', c', h3, rfl, h4⟩ | ⟨h3, rfl⟩⟩ := h
  · exact ⟨q, true, _, xs, rfl, h1, h2, fun _ => ⟨h3, h4⟩, fun h => by cases h⟩
  · exact ⟨q, false, _, [], rfl, h1, h2, fun h => (by cases h), fun _ => h3⟩
theorem RBytesPost.flag (h : RBytesPost bs A c hi g p most w e w') : ∃ (q : Nat) (ok : Bool) (z : Int) (v : Value) (xs : List Nat), e = .returned (.tuple #[v, .int .i64 z]) ∧ (0 ≤ z ∧ z ≤ 5) ∧ (z = 0 ↔ ok = true) ∧ DRd w' hi g bs A c q ∧ Fr w.heap.size (fun k => k = g) w w' ∧
    (ok = true → pBytes most (bs.drop p) = some (xs, bs.drop q) ∧ OwnB w' w.heap.size v xs) ∧ (ok = false → pBytes most (bs.drop p) = none) := by
  rcases h with ⟨xs, q, A', c', h1, rfl, h2, h3, h4⟩ | ⟨h1, rfl, h2, h3⟩
  · exact ⟨q, true, 0, _, xs, rfl, by omega, by simp, h3, h4, fun _ => ⟨h1, h2⟩, fun h => by cases h⟩
  · exact ⟨p, false, 5, _, [], rfl, by omega, by simp, h2, h3, fun h => (by cases h), fun _ => h1⟩
theorem OwnInts.addrN {w : World} {lo hi n : Nat} {v : Value} {xs : List Int} (h : OwnInts w lo hi v xs) (hn : xs.length = n) (h0 : 0 < n) : ∃ b c, v = .slice (some ⟨b, 0, none⟩) n c ∧ (n ≤ c ∧ c ≤ 9223372036854775807) ∧ (lo ≤ b ∧ b < w.heap.size) ∧ ∀ j x, xs[j]? = some x → w.cell? ⟨b, j, none⟩ = some (.int .i64 x) := by
  subst hn
  obtain ⟨A, c, rfl, _⟩ := h.1.form
  obtain ⟨_, hh⟩ := h.1.1
  rcases hh with ⟨h1, h2⟩ | ⟨b, cap, cur, h1, hlo, _, hc1, hc2, _⟩
  · omega
  · injection h1 with h1 _ h3
    subst h1
    subst h3
    simp only [maxLen] at hc2
    refine ⟨b, c, rfl, ⟨hc1, hc2⟩, ⟨hlo, (h.1.1.lt b (by simp [Value.ownBlock])).2⟩, fun j x hx => ?_⟩
    have := World.ownsRow.cells h.1.1 (g := b) (by simp [Value.ownBlock]) j (.int .i64 x) (by rw [ints_getElem?, hx]; rfl)
    rw [Addr.add_mid, Nat.zero_add] at this
    exact this
end
theorem dbad {bs : List Nat} (h256 : ∀ x ∈ bs, x < 256) (hb : ∀ c, pCmd bs = some (c, []) → chkB c = true → False) : ∀ c, pCmd bs = some (c, []) → chkB c = false := fun c h => by
  cases hc : chkB c with
  | false => rfl
  | true => exact (hb c h hc).elim
theorem dflags {bs R1 R2 R3 R4 R5 R6 xs2 xs3 xs5 : List Nat} {xs1 xs4 xs6 : List Int} {ok1 ok2 ok3 ok4 ok5 ok6 : Bool} (h256 : ∀ x ∈ bs, x < 256)
    (t1 : ok1 = true → pNums 4 (bs.drop 0) = some (xs1, R1)) (n1 : ok1 = false → pNums 4 (bs.drop 0) = none) (t2 : ok2 = true → pBytes 63 R1 = some (xs2, R2)) (n2 : ok2 = false → pBytes 63 R1 = none)
    (t3 : ok3 = true → pBytes 200 R2 = some (xs3, R3)) (n3 : ok3 = false → pBytes 200 R2 = none) (t4 : ok4 = true → pNums 7 R3 = some (xs4, R4)) (n4 : ok4 = false → pNums 7 R3 = none)
    (t5 : ok5 = true → pBytes 64 R4 = some (xs5, R5)) (n5 : ok5 = false → pBytes 64 R4 = none) (t6 : ok6 = true → pNums 2 R5 = some (xs6, R6)) (n6 : ok6 = false → pNums 2 R5 = none) :
    ∀ c, pCmd bs = some (c, []) → chkB c = true → ok1 = true ∧ ok2 = true ∧ ok3 = true ∧ ok4 = true ∧ ok5 = true ∧ ok6 = true ∧ ∃ (n : Nat) (M7 : List Nat), n ≤ 16 ∧ xs6 = [c.part, (n : Int)] ∧ pNums n R6 = some (c.parts, M7) ∧ pNums 2 M7 = some ([c.time, c.days], []) := by
  intro c h hc
  obtain ⟨M1, M2, M3, M4, M5, M6, M7, n, a1, a2, a3, a4, a5, a6, hn, a7, a8⟩ := dparse h256 h hc
  rw [List.drop_zero] at t1 n1
  cases ok1 with
  | false => rw [a1] at n1; cases n1 rfl
  | true =>
  have e1 := t1 rfl
  rw [a1] at e1
  injection e1 with e1
  injection e1 with _ e1
  subst e1
  cases ok2 with
  | false => rw [a2] at n2; cases n2 rfl
  | true =>
  have e2 := t2 rfl
  rw [a2] at e2
  injection e2 with e2
  injection e2 with _ e2
  subst e2
  cases ok3 with
  | false => rw [a3] at n3; cases n3 rfl
  | true =>
  have e3 := t3 rfl
  rw [a3] at e3
  injection e3 with e3
  injection e3 with _ e3
  subst e3
  cases ok4 with
  | false => rw [a4] at n4; cases n4 rfl
  | true =>
  have e4 := t4 rfl
  rw [a4] at e4
  injection e4 with e4
  injection e4 with _ e4
  subst e4
  cases ok5 with
  | false => rw [a5] at n5; cases n5 rfl
  | true =>
  have e5 := t5 rfl
  rw [a5] at e5
  injection e5 with e5
  injection e5 with _ e5
  subst e5
  cases ok6 with
  | false => rw [a6] at n6; cases n6 rfl
  | true =>
  have e6 := t6 rfl
  rw [a6] at e6
  injection e6 with e6
  injection e6 with e6 e7
  subst e7
  exact ⟨rfl, rfl, rfl, rfl, rfl, rfl, n, M7, hn, e6.symm, a7, a8⟩
set_option maxRecDepth 100000 in
set_option maxHeartbeats 6400000 in
theorem rget_any (w : World) (hi c : Nat) (A : Option Addr) (bs : List Nat) (hr : Rd w 0 hi 1 A bs.length (u8s bs)) (hhi : hi ≤ w.heap.size) (hs : DS bs c) :
    Calls Tryd.prog 50 #[.slice A bs.length c] w (RGetPost bs w) := by
  have HS := Lib.hid hs
  have H := Lib.hid (And.intro hr hhi)
  clear hr hhi hs
  go_enter Tryd.func50, Tryd.ntmps50
  go_upto_region 2 with (fail)
  have hb0 : Below w.heap.size w ((w.alloc (.cells zCells 81)).alloc (.cells #[.slice A bs.length c, .int .i64 0] 192)) := ((Below.refl w.heap.size w).alloc (Nat.le_refl _) _).alloc (by simp) _
  refine wp_letter (fun W => Below w.heap.size w W ∧ Blk W w.heap.size 81 zCells ∧ DRd W hi (w.heap.size + 1) bs A c 0)
    ⟨hb0, (Blk.new w 81 _).alloc _, Blk.new1 w _ 192 _, H.out.1.fr (Fr.of_below hb0 (fun _ => False)) H.out.2 (fun _ _ _ h => h), by have := H.out.2; omega, Nat.zero_le _⟩ ?_
  clear hb0
  rintro W0 ⟨hb, hY, hD⟩
  obtain ⟨y, hy⟩ : ∃ y, y = w.heap.size := ⟨_, rfl⟩
  rw [← hy] at hY hD ⊢
  have H0 := Lib.hid (And.intro hb (And.intro hY (And.intro hD hy)))
  clear hb hY hD hy
  go_upto_region 3 with (first | (go_at_call 112; refine (take_any W0 hi (y + 1) 0 c 4 A bs H0.out.2.2.1 HS.out (by omega)).mono ?_; rintro e w1 hh; obtain ⟨q1, ok1, v1, xs1, rfl, D1, F1, T1, N1⟩ := hh.flag; have H1 := Lib.hid (And.intro D1 (And.intro F1 (And.intro T1 N1))); clear D1 F1 T1 N1) | fail)
  go_upto_region 4 with (first | (go_at_call 113; refine (rBytes_any w1 hi (y + 1) q1 c 63 A bs H1.out.1 HS.out (by omega)).mono ?_; rintro e w2 hh; obtain ⟨q2, ok2, z2, v2, xs2, rfl, hz2, hk2, D2, F2, T2, N2⟩ := hh.flag; have H2 := Lib.hid (And.intro D2 (And.intro F2 (And.intro T2 N2))); have Z2 := Lib.hid (And.intro hz2 hk2); clear D2 F2 T2 N2 hz2 hk2) | fail)
  go_upto_region 5 with (first | (go_at_call 113; refine (rBytes_any w2 hi (y + 1) q2 c 200 A bs H2.out.1 HS.out (by omega)).mono ?_; rintro e w3 hh; obtain ⟨q3, ok3, z3, v3, xs3, rfl, hz3, hk3, D3, F3, T3, N3⟩ := hh.flag; have H3 := Lib.hid (And.intro D3 (And.intro F3 (And.intro T3 N3))); have Z3 := Lib.hid (And.intro hz3 hk3); clear D3 F3 T3 N3 hz3 hk3) | fail)
  go_upto_region 6 with (first | (go_at_call 112; refine (take_any w3 hi (y + 1) q3 c 7 A bs H3.out.1 HS.out (by omega)).mono ?_; rintro e w4 hh; obtain ⟨q4, ok4, v4, xs4, rfl, D4, F4, T4, N4⟩ := hh.flag; have H4 := Lib.hid (And.intro D4 (And.intro F4 (And.intro T4 N4))); clear D4 F4 T4 N4) | fail)
  go_upto_region 7 with (first | (go_at_call 113; refine (rBytes_any w4 hi (y + 1) q4 c 64 A bs H4.out.1 HS.out (by omega)).mono ?_; rintro e w5 hh; obtain ⟨q5, ok5, z5, v5, xs5, rfl, hz5, hk5, D5, F5, T5, N5⟩ := hh.flag; have H5 := Lib.hid (And.intro D5 (And.intro F5 (And.intro T5 N5))); have Z5 := Lib.hid (And.intro hz5 hk5); clear D5 F5 T5 N5 hz5 hk5) | fail)
  go_upto_region 8 with (first | (go_at_call 112; refine (take_any w5 hi (y + 1) q5 c 2 A bs H5.out.1 HS.out (by omega)).mono ?_; rintro e w6 hh; obtain ⟨q6, ok6, v6, xs6, rfl, D6, F6, T6, N6⟩ := hh.flag; have H6 := Lib.hid (And.intro D6 (And.intro F6 (And.intro T6 N6))); clear D6 F6 T6 N6) | fail)
  have HFL := Lib.hid (dflags HS.out.h256 (fun h => (H1.out.2.2.1 h).1) H1.out.2.2.2 (fun h => (H2.out.2.2.1 h).1) H2.out.2.2.2 (fun h => (H3.out.2.2.1 h).1) H3.out.2.2.2 (fun h => (H4.out.2.2.1 h).1) H4.out.2.2.2 (fun h => (H5.out.2.2.1 h).1) H5.out.2.2.2 (fun h => (H6.out.2.2.1 h).1) H6.out.2.2.2)
  go_cut [78] from 55 to 78 (fun s wx => wx = w6 ∧ ∃ bad : Bool, s = .bool bad ∧ (bad = true → ∀ c, pCmd bs = some (c, []) → chkB c = false) ∧ (bad = false → ok1 = true ∧ ok2 = true ∧ ok3 = true ∧ ok4 = true ∧ ok5 = true ∧ ok6 = true ∧ ∃ n : Nat, xs6[1]? = some (n : Int) ∧ n ≤ 16))
  case first =>
    cases ok1 with
    | false =>
      go_wp2_with (fail)
      go_meet
      exact ⟨rfl, true, rfl, fun _ => dbad HS.out.h256 (fun c h hc => by have := (HFL.out c h hc).1; cases this), fun h => by cases h⟩
    | true =>
    cases ok4 with
    | false =>
      go_wp2_with (fail)
      go_meet
      exact ⟨rfl, true, rfl, fun _ => dbad HS.out.h256 (fun c h hc => by have := (HFL.out c h hc).2.2.2.1; cases this), fun h => by cases h⟩
    | true =>
    cases ok6 with
    | false =>
      go_wp2_with (fail)
      go_meet
      exact ⟨rfl, true, rfl, fun _ => dbad HS.out.h256 (fun c h hc => by have := (HFL.out c h hc).2.2.2.2.2.1; cases this), fun h => by cases h⟩
    | true =>
    have hz2 := Z2.out.1
    have hz3 := Z3.out.1
    have hz5 := Z5.out.1
    by_cases hz : z2 + z3 + z5 = 0
    · obtain rfl : z2 = 0 := by omega
      obtain rfl : z3 = 0 := by omega
      obtain rfl : z5 = 0 := by omega
      have k2 := Z2.out.2.1 rfl
      have k3 := Z3.out.2.1 rfl
      have k5 := Z5.out.2.1 rfl
      obtain ⟨t6, o6⟩ := H6.out.2.2.1 rfl
      obtain ⟨a, R1, ys, _, t6', hxs⟩ := pNums_uncons t6
      obtain ⟨m, R2, ys', _, t6'', hxs'⟩ := pNums_uncons t6'
      obtain ⟨rfl, _⟩ := pNums_zero t6''
      obtain ⟨b6, c6, rfl, _, hc6⟩ := o6.addr (by rw [hxs]; simp)
      have hm : xs6[1]? = some (m : Int) := by rw [hxs, hxs']; rfl
      have hcm := hc6 1 _ hm
      have h1n : 1 < xs6.length := by rw [hxs, hxs']; simp
      have h1l : (1 : Int) < (xs6.length : Int) := by omega
      have HM := Lib.hid (And.intro hm (And.intro k2 (And.intro k3 (And.intro k5 (show xs6 = [(a : Int), (m : Int)] by rw [hxs, hxs'])))))
      clear t6 t6' t6'' hxs hxs' hc6 hm k2 k3 k5 o6 hz hz2 hz3 hz5
      by_cases h16 : (m : Int) > 16
      · go_wp2_with (fail)
        go_meet
        exact ⟨rfl, true, rfl, fun _ => dbad HS.out.h256 (fun c h hc => by
          obtain ⟨_, _, _, _, _, _, n, _, hn, hx, _⟩ := HFL.out c h hc
          rw [HM.out.2.2.2.2] at hx
          simp at hx
          omega), fun h => by cases h⟩
      · go_wp2_with (fail)
        go_meet
        exact ⟨rfl, false, rfl, fun h => (by cases h), fun _ => ⟨by trivial, HM.out.2.1, HM.out.2.2.1, by trivial, HM.out.2.2.2.1, by trivial, m, HM.out.1, by omega⟩⟩
    · go_wp2_with (fail)
      go_meet
      exact ⟨rfl, true, rfl, fun _ => dbad HS.out.h256 (fun c h hc => by
        obtain ⟨_, r2, r3, _, r5, _⟩ := HFL.out c h hc
        have := Z2.out.2.2 r2
        have := Z3.out.2.2 r3
        have := Z5.out.2.2 r5
        omega), fun h => by cases h⟩
  case rest =>
  obtain ⟨rfl, bad, rfl, hbad, hgood⟩ := hcut
  have hne : y ≠ y + 1 := by omega
  have hBel : ∀ W, Fr W0.heap.size (fun k => k = y + 1) W0 W → Below w.heap.size w W := fun W f => ((Fr.of_below H0.out.1 (fun _ => False)).trans (f.mono H0.out.1.size (S' := fun _ => False) (fun k hk he => by have := H0.out.2.2.2; omega))).below (fun _ _ h => h)
  have F06 := FrG.trans (FrG.trans (FrG.trans (FrG.trans (FrG.trans H1.out.2.1 H2.out.2.1) H3.out.2.1) H4.out.2.1) H5.out.2.1) H6.out.2.1
  have hYk : ∀ W, Fr W0.heap.size (fun k => k = y + 1) W0 W → Blk W y 81 zCells := fun W f => H0.out.2.1.keep f hne
  have HB := Lib.hid (And.intro hBel hYk)
  have HF06 := Lib.hid F06
  clear hBel hYk F06
  have hzc : (Tryd.prog.info? 81).map (·.size) = some zCells.size := cmd_info
  have hzo : zCells.all (·.oneCell') = true := by simp [zCells, Value.oneCell']
  cases bad with
  | true =>
    have HBAD := Lib.hid (hbad rfl)
    have hY6 := HB.out.2 _ HF06.out
    have HY6 := Lib.hid hY6
    clear hbad hgood hY6
    go_wp2_with (first
      | ((with_reducible refine law_store_row 81 (.tmp 2) (.tmp 79) y 81 zCells zCells HY6.out ?_ ?_ hzc rfl hzo ?_); rfl; rfl; intro W8 hY8 hF8 hs8; have H8 := Lib.hid (And.intro hY8 (And.intro hF8 hs8)); clear hY8 hF8 hs8)
      | fail)
    have hld := run_loadVar_mid (P := Tryd.prog) W8 y 0 81 (zeroCmd.cells (.slice none 0 0)) _ (Blk.range H8.out.1) Tryd.underlying81 rfl cmd_info
    have hend : RGetPost bs w (.returned (.tuple #[.agg (zeroCmd.cells (.slice none 0 0)).toArray, .bool false])) W8 :=
      .inr ⟨HBAD.out, rfl, ((Fr.of_below (HB.out.1 _ HF06.out) (fun _ => False)).trans (H8.out.2.1.mono (S' := fun _ => False) (HB.out.1 _ HF06.out).size (fun k hk he => by have := H0.out.2.2.2; omega))).below (fun _ _ h => h)⟩
    have HEND := Lib.hid hend
    clear hend
    simp [go_sem] at hld
    exact bodyPost_ret (v := .tuple #[.agg (zeroCmd.cells (.slice none 0 0)).toArray, .bool false]) (by simp [results, Tryd.results50, go_sem, hld]) rfl HEND.out
  | false =>
    obtain ⟨rfl, rfl, rfl, rfl, rfl, rfl, n, hn, hn16⟩ := hgood rfl
    clear hbad hgood
    have TT1 := Lib.hid (H1.out.2.2.1 rfl)
    have TT2 := Lib.hid (H2.out.2.2.1 rfl)
    have TT3 := Lib.hid (H3.out.2.2.1 rfl)
    have TT4 := Lib.hid (H4.out.2.2.1 rfl)
    have TT5 := Lib.hid (H5.out.2.2.1 rfl)
    obtain ⟨t6, o6⟩ := H6.out.2.2.1 rfl
    obtain ⟨b6, c6, rfl, _, hc6⟩ := o6.addr (by rw [pNums_len t6]; omega)
    have hcm := hc6 1 _ hn
    have h1n : 1 < xs6.length := by rw [pNums_len t6]; omega
    have h1l : (1 : Int) < (xs6.length : Int) := by omega
    have H6T := Lib.hid (And.intro t6 (And.intro o6 (And.intro hn hc6)))
    clear t6 o6 hn hc6
    go_upto_region 11 with (first | (go_at_call 112; refine (take_any _ hi (y + 1) q6 c n A bs H6.out.1 HS.out (by omega)).mono ?_; rintro e w7 hh; obtain ⟨q7, ok7, v7, xs7, rfl, D7, F7, T7, N7⟩ := hh.flag; have H7 := Lib.hid (And.intro D7 (And.intro F7 (And.intro T7 N7))); clear D7 F7 T7 N7) | fail)
    go_upto_region 12 with (first | (go_at_call 112; refine (take_any w7 hi (y + 1) q7 c 2 A bs H7.out.1 HS.out (by omega)).mono ?_; rintro e w8 hh; obtain ⟨q8, ok8, v8, xs8, rfl, D8, F8, T8, N8⟩ := hh.flag; have d8 := D8.1.cell 1; have H8 := Lib.hid (And.intro D8 (And.intro F8 (And.intro T8 N8))); clear D8 F8 T8 N8) | fail)
    go_cut [107] from 93 to 107 (fun s wx => wx = w8 ∧ ∃ bad : Bool, s = .bool bad ∧ (bad = true → ∀ c, pCmd bs = some (c, []) → chkB c = false) ∧ (bad = false → ok7 = true ∧ ok8 = true ∧ bs.drop q8 = []))
    case first =>
      have hfl : ∀ c, pCmd bs = some (c, []) → chkB c = true → ∃ M7, pNums n (bs.drop q6) = some (c.parts, M7) ∧ pNums 2 M7 = some ([c.time, c.days], []) := fun c h hc => by
        obtain ⟨_, _, _, _, _, _, n', M7, hn', hx, h7, h8⟩ := HFL.out c h hc
        have := H6T.out.2.2.1
        rw [hx] at this
        simp at this
        obtain rfl : n' = n := by omega
        exact ⟨M7, h7, h8⟩
      have HFL2 := Lib.hid hfl
      clear hfl
      cases ok7 with
      | false =>
        have N7 := Lib.hid (H7.out.2.2.2 rfl)
        go_wp2_with (fail)
        go_meet
        exact ⟨rfl, true, rfl, fun _ => dbad HS.out.h256 (fun c h hc => by
          obtain ⟨M7, h7, _⟩ := HFL2.out c h hc
          rw [N7.out] at h7
          cases h7), fun h => by cases h⟩
      | true =>
      have T7 := Lib.hid (H7.out.2.2.1 rfl).1
      cases ok8 with
      | false =>
        have N8 := Lib.hid (H8.out.2.2.2 rfl)
        go_wp2_with (fail)
        go_meet
        exact ⟨rfl, true, rfl, fun _ => dbad HS.out.h256 (fun c h hc => by
          obtain ⟨M7, h7, h8⟩ := HFL2.out c h hc
          rw [T7.out] at h7
          injection h7 with h7
          injection h7 with _ h7
          rw [← h7, N8.out] at h8
          cases h8), fun h => by cases h⟩
      | true =>
      have T8 := Lib.hid (H8.out.2.2.1 rfl).1
      by_cases hat : (q8 : Int) = (bs.length : Int)
      · have hdr : bs.drop q8 = [] := List.drop_eq_nil_of_le (by omega)
        have HDR := Lib.hid hdr
        clear hdr
        go_wp2_with (fail)
        go_meet
        exact ⟨rfl, false, rfl, fun h => (by cases h), fun _ => ⟨by trivial, by trivial, HDR.out⟩⟩
      · have hat' : ((q8 : Int) != (bs.length : Int)) = true := by simpa using hat
        go_wp2_with (fail)
        go_meet
        exact ⟨rfl, true, rfl, fun _ => dbad HS.out.h256 (fun c h hc => by
          obtain ⟨M7, h7, h8⟩ := HFL2.out c h hc
          rw [T7.out] at h7
          injection h7 with h7
          injection h7 with _ h7
          rw [← h7, T8.out] at h8
          injection h8 with h8
          injection h8 with _ h8
          have h9 := congrArg List.length h8
          rw [List.length_drop] at h9
          have := H8.out.1.2.2.2
          simp at h9
          omega), fun h => by cases h⟩
    case rest =>
    obtain ⟨hwx, bad, rfl, hbad, hgood⟩ := hcut
    obtain rfl := hwx.symm
    have F08 := FrG.trans (FrG.trans HF06.out H7.out.2.1) H8.out.2.1
    have HF08 := Lib.hid F08
    clear F08
    cases bad with
    | true =>
      have HBAD := Lib.hid (hbad rfl)
      have hY6 := HB.out.2 _ HF08.out
      have HY6 := Lib.hid hY6
      clear hbad hgood hY6
      go_wp2_with (first
        | ((with_reducible refine law_store_row 81 (.tmp 2) (.tmp 108) y 81 zCells zCells HY6.out ?_ ?_ hzc rfl hzo ?_); rfl; rfl; intro W9 hY8 hF8 hs8; have H9 := Lib.hid (And.intro hY8 (And.intro hF8 hs8)); clear hY8 hF8 hs8)
        | fail)
      have hld := run_loadVar_mid (P := Tryd.prog) W9 y 0 81 (zeroCmd.cells (.slice none 0 0)) _ (Blk.range H9.out.1) Tryd.underlying81 rfl cmd_info
      have hend : RGetPost bs w (.returned (.tuple #[.agg (zeroCmd.cells (.slice none 0 0)).toArray, .bool false])) W9 :=
        .inr ⟨HBAD.out, rfl, ((Fr.of_below (HB.out.1 _ HF08.out) (fun _ => False)).trans (H9.out.2.1.mono (S' := fun _ => False) (HB.out.1 _ HF08.out).size (fun k hk he => by have := H0.out.2.2.2; omega))).below (fun _ _ h => h)⟩
      have HEND := Lib.hid hend
      clear hend
      simp [go_sem] at hld
      exact bodyPost_ret (v := .tuple #[.agg (zeroCmd.cells (.slice none 0 0)).toArray, .bool false]) (by simp [results, Tryd.results50, go_sem, hld]) rfl HEND.out
    | false =>
      obtain ⟨rfl, rfl, hdr⟩ := hgood rfl
      obtain ⟨t1, o1⟩ := TT1.out
      obtain ⟨t2, o2⟩ := TT2.out
      obtain ⟨t3, o3⟩ := TT3.out
      obtain ⟨t4, o4⟩ := TT4.out
      obtain ⟨t5, o5⟩ := TT5.out
      obtain ⟨t7, o7⟩ := H7.out.2.2.1 rfl
      obtain ⟨t8, o8⟩ := H8.out.2.2.1 rfl
      rw [hdr] at t8
      rw [List.drop_zero] at t1
      obtain ⟨c0, hp0, hx1, hx2, hx3, hx4, hx5, hx6, hx7, hx8⟩ := dparse_conv t1 t2 t3 t4 t5 H6T.out.1 n H6T.out.2.2.1 hn16 t7 t8
      have hyW : y + 1 < W0.heap.size := H0.out.2.2.1.1.lt
      have G7 := H8.out.2.1
      have G6 := FrG.trans H7.out.2.1 G7
      have G5 := FrG.trans H6.out.2.1 G6
      have G4 := FrG.trans H5.out.2.1 G5
      have G3 := FrG.trans H4.out.2.1 G4
      have G2 := FrG.trans H3.out.2.1 G3
      have G1 := FrG.trans H2.out.2.1 G2
      have s1 := H1.out.2.1.size
      have s2 := H2.out.2.1.size
      have s3 := H3.out.2.1.size
      have s4 := H4.out.2.1.size
      have s5 := H5.out.2.1.size
      have s6 := H6.out.2.1.size
      have s7 := H7.out.2.1.size
      have s8 := H8.out.2.1.size
      obtain ⟨b1, c1, rfl, hc1, hb1, hi1⟩ := o1.addrN (pNums_len t1) (by omega)
      obtain ⟨b4, c4, rfl, hc4, hb4, hi4⟩ := o4.addrN (pNums_len t4) (by omega)
      obtain ⟨b8, c8, rfl, hc8, hb8, hi8⟩ := o8.addrN (pNums_len t8) (by omega)
      obtain ⟨A2, c2, rfl, r2⟩ := o2.rd
      obtain ⟨A3, c3, rfl, r3⟩ := o3.rd
      obtain ⟨A5, c5, rfl, r5⟩ := o5.rd
      have C1 : ∀ w', Below w8.heap.size w8 w' → ∀ j x, xs1[j]? = some x → w'.cell? ⟨b1, j, none⟩ = some (.int .i64 x) := fun w' hw j x hx =>
        (hw.cell (p := ⟨b1, j, none⟩) (by have := G1.size; simp; omega)).trans ((G1.cell (p := ⟨b1, j, none⟩) hb1.2 (by simp; omega)).trans (hi1 j x hx))
      have C4 : ∀ w', Below w8.heap.size w8 w' → ∀ j x, xs4[j]? = some x → w'.cell? ⟨b4, j, none⟩ = some (.int .i64 x) := fun w' hw j x hx =>
        (hw.cell (p := ⟨b4, j, none⟩) (by have := G4.size; simp; omega)).trans ((G4.cell (p := ⟨b4, j, none⟩) hb4.2 (by simp; omega)).trans (hi4 j x hx))
      have C8 : ∀ w', Below w8.heap.size w8 w' → ∀ j x, xs8[j]? = some x → w'.cell? ⟨b8, j, none⟩ = some (.int .i64 x) := fun w' hw j x hx =>
        (hw.cell (p := ⟨b8, j, none⟩) hb8.2).trans (hi8 j x hx)
      have hb6 := H6T.out.2.1
      have C6 : ∀ w', Below w8.heap.size w8 w' → ∀ j x, xs6[j]? = some x → w'.cell? ⟨b6, j, none⟩ = some (.int .i64 x) := fun w' hw j x hx => by
        have hbb := hb6.1.1.lt b6 (by simp [Value.ownBlock])
        exact (hw.cell (p := ⟨b6, j, none⟩) (by have := G6.size; simp; omega)).trans ((G6.cell (p := ⟨b6, j, none⟩) hbb.2 (by simp; omega)).trans (H6T.out.2.2.2 j x hx))
      have HX2 := Lib.hid (show ∀ x ∈ xs2, x < 256 from fun x hx => by
        obtain ⟨n', r', e1, _, _, e4, _⟩ := pBytes_inv t2
        rw [e4] at hx
        exact dec_rest (fun x hx => HS.out.h256 x (List.mem_of_mem_drop hx)) e1 x (List.mem_of_mem_take hx))
      have HX3 := Lib.hid (show ∀ x ∈ xs3, x < 256 from fun x hx => by
        obtain ⟨n', r', e1, _, _, e4, _⟩ := pBytes_inv t3
        rw [e4] at hx
        exact dec_rest (fun x hx => HS.out.h256 x (List.mem_of_mem_drop hx)) e1 x (List.mem_of_mem_take hx))
      have HX5 := Lib.hid (show ∀ x ∈ xs5, x < 256 from fun x hx => by
        obtain ⟨n', r', e1, _, _, e4, _⟩ := pBytes_inv t5
        rw [e4] at hx
        exact dec_rest (fun x hx => HS.out.h256 x (List.mem_of_mem_drop hx)) e1 x (List.mem_of_mem_take hx))
      have V2 : ∀ w', Below w8.heap.size w8 w' → (convert 84 9 (.slice A2 xs2.length c2)).run Tryd.prog w' = .ok (.string c0.bucket) w' := fun w' hw => by
        have h1 := (r2.fr G2 (Nat.le_refl _) (fun k h1 h2 h3 => by omega)).fr (Fr.of_below hw (fun _ => False)) G2.size (fun _ _ _ h => h)
        rw [hx2]
        exact conv_bytes (fun x hx => HX2.out x hx) h1 (ownA8 o2)
      have V3 : ∀ w', Below w8.heap.size w8 w' → (convert 84 9 (.slice A3 xs3.length c3)).run Tryd.prog w' = .ok (.string c0.key) w' := fun w' hw => by
        have h1 := (r3.fr G3 (Nat.le_refl _) (fun k h1 h2 h3 => by omega)).fr (Fr.of_below hw (fun _ => False)) G3.size (fun _ _ _ h => h)
        rw [hx3]
        exact conv_bytes (fun x hx => HX3.out x hx) h1 (ownA8 o3)
      have V5 : ∀ w', Below w8.heap.size w8 w' → (convert 84 9 (.slice A5 xs5.length c5)).run Tryd.prog w' = .ok (.string c0.etag) w' := fun w' hw => by
        have h1 := (r5.fr G5 (Nat.le_refl _) (fun k h1 h2 h3 => by omega)).fr (Fr.of_below hw (fun _ => False)) G5.size (fun _ _ _ h => h)
        rw [hx5]
        exact conv_bytes (fun x hx => HX5.out x hx) h1 (ownA8 o5)
      have o7' := OwnInts.wider (OwnInts.fr o7 G7 (Nat.le_refl _) (fun k h1 h2 h3 => by omega)) (HB.out.1 _ HF06.out).size G7.size
      have hx6n : ¬ xs6 = [] := fun h => by rw [h] at h1n; simp at h1n
      have X1 : ∀ w', Below w8.heap.size w8 w' → w'.cell? ⟨b1, 0, none⟩ = some (.int .i64 c0.kind) := fun w' hw => C1 w' hw 0 _ (by rw [hx1]; rfl)
      have X2 : ∀ w', Below w8.heap.size w8 w' → w'.cell? ⟨b1, 1, none⟩ = some (.int .i64 c0.idn) := fun w' hw => C1 w' hw 1 _ (by rw [hx1]; rfl)
      have X3 : ∀ w', Below w8.heap.size w8 w' → w'.cell? ⟨b1, 2, none⟩ = some (.int .i64 c0.idb) := fun w' hw => C1 w' hw 2 _ (by rw [hx1]; rfl)
      have X4 : ∀ w', Below w8.heap.size w8 w' → w'.cell? ⟨b1, 3, none⟩ = some (.int .i64 c0.ids) := fun w' hw => C1 w' hw 3 _ (by rw [hx1]; rfl)
      have U1 : ∀ w', Below w8.heap.size w8 w' → w'.cell? ⟨b4, 0, none⟩ = some (.int .i64 c0.upn) := fun w' hw => C4 w' hw 0 _ (by rw [hx4]; rfl)
      have U2 : ∀ w', Below w8.heap.size w8 w' → w'.cell? ⟨b4, 1, none⟩ = some (.int .i64 c0.upb) := fun w' hw => C4 w' hw 1 _ (by rw [hx4]; rfl)
      have U3 : ∀ w', Below w8.heap.size w8 w' → w'.cell? ⟨b4, 2, none⟩ = some (.int .i64 c0.ups) := fun w' hw => C4 w' hw 2 _ (by rw [hx4]; rfl)
      have U4 : ∀ w', Below w8.heap.size w8 w' → w'.cell? ⟨b4, 3, none⟩ = some (.int .i64 c0.pbn) := fun w' hw => C4 w' hw 3 _ (by rw [hx4]; rfl)
      have U5 : ∀ w', Below w8.heap.size w8 w' → w'.cell? ⟨b4, 4, none⟩ = some (.int .i64 c0.pbb) := fun w' hw => C4 w' hw 4 _ (by rw [hx4]; rfl)
      have U6 : ∀ w', Below w8.heap.size w8 w' → w'.cell? ⟨b4, 5, none⟩ = some (.int .i64 c0.pbs) := fun w' hw => C4 w' hw 5 _ (by rw [hx4]; rfl)
      have U7 : ∀ w', Below w8.heap.size w8 w' → w'.cell? ⟨b4, 6, none⟩ = some (.int .i64 c0.psize) := fun w' hw => C4 w' hw 6 _ (by rw [hx4]; rfl)
      have Q1 : ∀ w', Below w8.heap.size w8 w' → w'.cell? ⟨b6, 0, none⟩ = some (.int .i64 c0.part) := fun w' hw => C6 w' hw 0 _ (by rw [hx6]; rfl)
      have E1 : ∀ w', Below w8.heap.size w8 w' → w'.cell? ⟨b8, 0, none⟩ = some (.int .i64 c0.time) := fun w' hw => C8 w' hw 0 _ (by rw [hx8]; rfl)
      have E2 : ∀ w', Below w8.heap.size w8 w' → w'.cell? ⟨b8, 1, none⟩ = some (.int .i64 c0.days) := fun w' hw => C8 w' hw 1 _ (by rw [hx8]; rfl)
      obtain ⟨A7, k7, rfl, _⟩ := o7'.1.form
      have hid1 : ∀ w', Below w8.heap.size w8 w' → Calls Tryd.prog 114 #[.slice (some ⟨b1, 1, none⟩) 3 (c1 - 1)] w' fun e w'' => e = .returned (.agg #[.int .i64 c0.idn, .int .i64 c0.idb, .int .i64 c0.ids]) ∧ Below w'.heap.size w' w'' := fun w' hw => rId_any w' b1 1 3 (c1 - 1) _ _ _ (by omega) (X2 w' hw) (X3 w' hw) (X4 w' hw)
      have hid2 : ∀ w', Below w8.heap.size w8 w' → Calls Tryd.prog 114 #[.slice (some ⟨b4, 0, none⟩) 7 c4] w' fun e w'' => e = .returned (.agg #[.int .i64 c0.upn, .int .i64 c0.upb, .int .i64 c0.ups]) ∧ Below w'.heap.size w' w'' := fun w' hw => rId_any w' b4 0 7 c4 _ _ _ (by omega) (U1 w' hw) (U2 w' hw) (U3 w' hw)
      have hid3 : ∀ w', Below w8.heap.size w8 w' → Calls Tryd.prog 114 #[.slice (some ⟨b4, 3, none⟩) 4 (c4 - 3)] w' fun e w'' => e = .returned (.agg #[.int .i64 c0.pbn, .int .i64 c0.pbb, .int .i64 c0.pbs]) ∧ Below w'.heap.size w' w'' := fun w' hw => rId_any w' b4 3 4 (c4 - 3) _ _ _ (by omega) (U4 w' hw) (U5 w' hw) (U6 w' hw)
      have HX := Lib.hid (And.intro X1 (And.intro U7 (And.intro Q1 (And.intro E1 (And.intro E2 (And.intro V2 (And.intro V3 V5)))))))
      have HI1 := Lib.hid hid1
      have HI2 := Lib.hid hid2
      have HI3 := Lib.hid hid3
      have O7 := Lib.hid o7'
      have HP0 := Lib.hid (And.intro hp0 hx7)
      have hone : (c0.cells (.slice A7 xs7.length k7)).toArray.all (·.oneCell') = true := cells_oneCell _ _ _ _
      have hc4' : 7 ≤ c4 ∧ ¬ c4 = 3 := by omega
      have hc1' : 4 ≤ c1 ∧ ¬ c1 = 1 := by omega
      clear C1 C4 C6 C8 V2 V3 V5 X1 X2 X3 X4 U1 U2 U3 U4 U5 U6 U7 Q1 E1 E2 hid1 hid2 hid3 hi1 hi4 hi8 o1 o2 o3 o4 o5 o7 o8 o7' r2 r3 r5 t1 t2 t3 t4 t5 t7 t8 hx1 hx2 hx3 hx4 hx5 hx6 hx7 hx8 G1 G2 G3 G4 G5 G6 G7 HX2 HX3 HX5 hb1 hb4 hb8 hp0 hdr hgood hbad s1 s2 s3 s4 s5 s6 s7 s8
      go_upto_region 14 with (fail)
      go_cut [21] from 109 to 140 (fun s wx => ∃ z : Nat, s = .pointer (some ⟨z, 0, none⟩) ∧ w8.heap.size ≤ z ∧ Blk wx z 81 (c0.cells (.slice A7 xs7.length k7)).toArray ∧ Below w8.heap.size w8 wx)
      case first =>
        have hBr : Below w8.heap.size w8 w8.drew := (Below.refl w8.heap.size w8).drew
        refine wp_region_held_drew (S := fun w' => Below w8.heap.size w8 w') (by kernel_rfl) hBr (fun _ => ?_)
        refine wpAnyH_take (i := 0) (v := .slice (some ⟨b1, 0, none⟩) 4 c1) rfl (by kernel_rfl) (by kernel_rfl) (by kernel_rfl) (fun _ _ _ h => h) (Or.inl ⟨by kernel_rfl, fun w' hSw => ?_⟩) hBr ?_
        · go_simp
        simp only [List.getElem_toArray, List.getElem_cons_succ, List.getElem_cons_zero, Act.put, List.setIfInBounds_toArray, List.set_cons_zero, List.set_cons_succ]
        refine wpAnyH_take (i := 1) (v := .pointer (some ⟨b1, 0, none⟩)) rfl (by kernel_rfl) (by kernel_rfl) (by kernel_rfl) (fun _ _ _ h => h) (Or.inl ⟨by kernel_rfl, fun w' hSw => ?_⟩) hBr ?_
        · go_simp
        simp only [List.getElem_toArray, List.getElem_cons_succ, List.getElem_cons_zero, Act.put, List.setIfInBounds_toArray, List.set_cons_zero, List.set_cons_succ]
        refine wpAnyH_take (i := 2) (v := .int .i64 c0.kind) rfl (by kernel_rfl) (by kernel_rfl) (by kernel_rfl) (fun _ _ _ h => h) (Or.inl ⟨by kernel_rfl, fun w' hSw => ?_⟩) hBr ?_
        · (have hcx := HX.out.1 w' hSw; go_simp)
        simp only [List.getElem_toArray, List.getElem_cons_succ, List.getElem_cons_zero, Act.put, List.setIfInBounds_toArray, List.set_cons_zero, List.set_cons_succ]
        refine wpAnyH_take (i := 3) (v := .slice (some ⟨b1, 0, none⟩) 4 c1) rfl (by kernel_rfl) (by kernel_rfl) (by kernel_rfl) (fun _ _ _ h => h) (Or.inl ⟨by kernel_rfl, fun w' hSw => ?_⟩) hBr ?_
        · go_simp
        simp only [List.getElem_toArray, List.getElem_cons_succ, List.getElem_cons_zero, Act.put, List.setIfInBounds_toArray, List.set_cons_zero, List.set_cons_succ]
        refine wpAnyH_take (i := 4) (v := .slice (some ⟨b1, 1, none⟩) 3 (c1 - 1)) rfl (by kernel_rfl) (by kernel_rfl) (by kernel_rfl) (fun _ _ _ h => h) (Or.inl ⟨by kernel_rfl, fun w' hSw => ?_⟩) hBr ?_
        · go_simp
        simp only [List.getElem_toArray, List.getElem_cons_succ, List.getElem_cons_zero, Act.put, List.setIfInBounds_toArray, List.set_cons_zero, List.set_cons_succ]
        refine wpAnyH_take (i := 6) (v := .slice A2 xs2.length c2) rfl (by kernel_rfl) (by kernel_rfl) (by kernel_rfl) (fun _ _ _ h => h) (Or.inl ⟨by kernel_rfl, fun w' hSw => ?_⟩) hBr ?_
        · go_simp
        simp only [List.getElem_toArray, List.getElem_cons_succ, List.getElem_cons_zero, Act.put, List.setIfInBounds_toArray, List.set_cons_zero, List.set_cons_succ]
        refine wpAnyH_take (i := 7) (v := .string c0.bucket) rfl (by kernel_rfl) (by kernel_rfl) (by kernel_rfl) (fun _ _ _ h => h) (Or.inl ⟨by kernel_rfl, fun w' hSw => ?_⟩) hBr ?_
        · (have hcx := HX.out.2.2.2.2.2.1 w' hSw; go_simp)
        simp only [List.getElem_toArray, List.getElem_cons_succ, List.getElem_cons_zero, Act.put, List.setIfInBounds_toArray, List.set_cons_zero, List.set_cons_succ]
        refine wpAnyH_take (i := 8) (v := .slice A3 xs3.length c3) rfl (by kernel_rfl) (by kernel_rfl) (by kernel_rfl) (fun _ _ _ h => h) (Or.inl ⟨by kernel_rfl, fun w' hSw => ?_⟩) hBr ?_
        · go_simp
        simp only [List.getElem_toArray, List.getElem_cons_succ, List.getElem_cons_zero, Act.put, List.setIfInBounds_toArray, List.set_cons_zero, List.set_cons_succ]
        refine wpAnyH_take (i := 9) (v := .string c0.key) rfl (by kernel_rfl) (by kernel_rfl) (by kernel_rfl) (fun _ _ _ h => h) (Or.inl ⟨by kernel_rfl, fun w' hSw => ?_⟩) hBr ?_
        · (have hcx := HX.out.2.2.2.2.2.2.1 w' hSw; go_simp)
        simp only [List.getElem_toArray, List.getElem_cons_succ, List.getElem_cons_zero, Act.put, List.setIfInBounds_toArray, List.set_cons_zero, List.set_cons_succ]
        refine wpAnyH_take (i := 10) (v := .slice (some ⟨b4, 0, none⟩) 7 c4) rfl (by kernel_rfl) (by kernel_rfl) (by kernel_rfl) (fun _ _ _ h => h) (Or.inl ⟨by kernel_rfl, fun w' hSw => ?_⟩) hBr ?_
        · go_simp
        simp only [List.getElem_toArray, List.getElem_cons_succ, List.getElem_cons_zero, Act.put, List.setIfInBounds_toArray, List.set_cons_zero, List.set_cons_succ]
        refine wpAnyH_take (i := 12) (v := .slice (some ⟨b4, 0, none⟩) 7 c4) rfl (by kernel_rfl) (by kernel_rfl) (by kernel_rfl) (fun _ _ _ h => h) (Or.inl ⟨by kernel_rfl, fun w' hSw => ?_⟩) hBr ?_
        · go_simp
        simp only [List.getElem_toArray, List.getElem_cons_succ, List.getElem_cons_zero, Act.put, List.setIfInBounds_toArray, List.set_cons_zero, List.set_cons_succ]
        refine wpAnyH_take (i := 13) (v := .slice (some ⟨b4, 3, none⟩) 4 (c4 - 3)) rfl (by kernel_rfl) (by kernel_rfl) (by kernel_rfl) (fun _ _ _ h => h) (Or.inl ⟨by kernel_rfl, fun w' hSw => ?_⟩) hBr ?_
        · go_simp
        simp only [List.getElem_toArray, List.getElem_cons_succ, List.getElem_cons_zero, Act.put, List.setIfInBounds_toArray, List.set_cons_zero, List.set_cons_succ]
        refine wpAnyH_take (i := 15) (v := .slice (some ⟨b4, 0, none⟩) 7 c4) rfl (by kernel_rfl) (by kernel_rfl) (by kernel_rfl) (fun _ _ _ h => h) (Or.inl ⟨by kernel_rfl, fun w' hSw => ?_⟩) hBr ?_
        · go_simp
        simp only [List.getElem_toArray, List.getElem_cons_succ, List.getElem_cons_zero, Act.put, List.setIfInBounds_toArray, List.set_cons_zero, List.set_cons_succ]
        refine wpAnyH_take (i := 16) (v := .pointer (some ⟨b4, 6, none⟩)) rfl (by kernel_rfl) (by kernel_rfl) (by kernel_rfl) (fun _ _ _ h => h) (Or.inl ⟨by kernel_rfl, fun w' hSw => ?_⟩) hBr ?_
        · go_simp
        simp only [List.getElem_toArray, List.getElem_cons_succ, List.getElem_cons_zero, Act.put, List.setIfInBounds_toArray, List.set_cons_zero, List.set_cons_succ]
        refine wpAnyH_take (i := 17) (v := .int .i64 c0.psize) rfl (by kernel_rfl) (by kernel_rfl) (by kernel_rfl) (fun _ _ _ h => h) (Or.inl ⟨by kernel_rfl, fun w' hSw => ?_⟩) hBr ?_
        · (have hcx := HX.out.2.1 w' hSw; go_simp)
        simp only [List.getElem_toArray, List.getElem_cons_succ, List.getElem_cons_zero, Act.put, List.setIfInBounds_toArray, List.set_cons_zero, List.set_cons_succ]
        refine wpAnyH_take (i := 18) (v := .slice A5 xs5.length c5) rfl (by kernel_rfl) (by kernel_rfl) (by kernel_rfl) (fun _ _ _ h => h) (Or.inl ⟨by kernel_rfl, fun w' hSw => ?_⟩) hBr ?_
        · go_simp
        simp only [List.getElem_toArray, List.getElem_cons_succ, List.getElem_cons_zero, Act.put, List.setIfInBounds_toArray, List.set_cons_zero, List.set_cons_succ]
        refine wpAnyH_take (i := 19) (v := .string c0.etag) rfl (by kernel_rfl) (by kernel_rfl) (by kernel_rfl) (fun _ _ _ h => h) (Or.inl ⟨by kernel_rfl, fun w' hSw => ?_⟩) hBr ?_
        · (have hcx := HX.out.2.2.2.2.2.2.2 w' hSw; go_simp)
        simp only [List.getElem_toArray, List.getElem_cons_succ, List.getElem_cons_zero, Act.put, List.setIfInBounds_toArray, List.set_cons_zero, List.set_cons_succ]
        refine wpAnyH_take (i := 21) (v := .slice (some ⟨b6, 0, none⟩) xs6.length c6) rfl (by kernel_rfl) (by kernel_rfl) (by kernel_rfl) (fun _ _ _ h => h) (Or.inl ⟨by kernel_rfl, fun w' hSw => ?_⟩) hBr ?_
        · go_simp
        simp only [List.getElem_toArray, List.getElem_cons_succ, List.getElem_cons_zero, Act.put, List.setIfInBounds_toArray, List.set_cons_zero, List.set_cons_succ]
        refine wpAnyH_take (i := 22) (v := .pointer (some ⟨b6, 0, none⟩)) rfl (by kernel_rfl) (by kernel_rfl) (by kernel_rfl) (fun _ _ _ h => h) (Or.inl ⟨by kernel_rfl, fun w' hSw => ?_⟩) hBr ?_
        · go_simp
        simp only [List.getElem_toArray, List.getElem_cons_succ, List.getElem_cons_zero, Act.put, List.setIfInBounds_toArray, List.set_cons_zero, List.set_cons_succ]
        refine wpAnyH_take (i := 23) (v := .int .i64 c0.part) rfl (by kernel_rfl) (by kernel_rfl) (by kernel_rfl) (fun _ _ _ h => h) (Or.inl ⟨by kernel_rfl, fun w' hSw => ?_⟩) hBr ?_
        · (have hcx := HX.out.2.2.1 w' hSw; go_simp)
        simp only [List.getElem_toArray, List.getElem_cons_succ, List.getElem_cons_zero, Act.put, List.setIfInBounds_toArray, List.set_cons_zero, List.set_cons_succ]
        refine wpAnyH_take (i := 24) (v := .slice A7 xs7.length k7) rfl (by kernel_rfl) (by kernel_rfl) (by kernel_rfl) (fun _ _ _ h => h) (Or.inl ⟨by kernel_rfl, fun w' hSw => ?_⟩) hBr ?_
        · go_simp
        simp only [List.getElem_toArray, List.getElem_cons_succ, List.getElem_cons_zero, Act.put, List.setIfInBounds_toArray, List.set_cons_zero, List.set_cons_succ]
        refine wpAnyH_take (i := 25) (v := .slice (some ⟨b8, 0, none⟩) 2 c8) rfl (by kernel_rfl) (by kernel_rfl) (by kernel_rfl) (fun _ _ _ h => h) (Or.inl ⟨by kernel_rfl, fun w' hSw => ?_⟩) hBr ?_
        · go_simp
        simp only [List.getElem_toArray, List.getElem_cons_succ, List.getElem_cons_zero, Act.put, List.setIfInBounds_toArray, List.set_cons_zero, List.set_cons_succ]
        refine wpAnyH_take (i := 26) (v := .pointer (some ⟨b8, 0, none⟩)) rfl (by kernel_rfl) (by kernel_rfl) (by kernel_rfl) (fun _ _ _ h => h) (Or.inl ⟨by kernel_rfl, fun w' hSw => ?_⟩) hBr ?_
        · go_simp
        simp only [List.getElem_toArray, List.getElem_cons_succ, List.getElem_cons_zero, Act.put, List.setIfInBounds_toArray, List.set_cons_zero, List.set_cons_succ]
        refine wpAnyH_take (i := 27) (v := .int .i64 c0.time) rfl (by kernel_rfl) (by kernel_rfl) (by kernel_rfl) (fun _ _ _ h => h) (Or.inl ⟨by kernel_rfl, fun w' hSw => ?_⟩) hBr ?_
        · (have hcx := HX.out.2.2.2.1 w' hSw; go_simp)
        simp only [List.getElem_toArray, List.getElem_cons_succ, List.getElem_cons_zero, Act.put, List.setIfInBounds_toArray, List.set_cons_zero, List.set_cons_succ]
        refine wpAnyH_take (i := 28) (v := .slice (some ⟨b8, 0, none⟩) 2 c8) rfl (by kernel_rfl) (by kernel_rfl) (by kernel_rfl) (fun _ _ _ h => h) (Or.inl ⟨by kernel_rfl, fun w' hSw => ?_⟩) hBr ?_
        · go_simp
        simp only [List.getElem_toArray, List.getElem_cons_succ, List.getElem_cons_zero, Act.put, List.setIfInBounds_toArray, List.set_cons_zero, List.set_cons_succ]
        refine wpAnyH_take (i := 29) (v := .pointer (some ⟨b8, 1, none⟩)) rfl (by kernel_rfl) (by kernel_rfl) (by kernel_rfl) (fun _ _ _ h => h) (Or.inl ⟨by kernel_rfl, fun w' hSw => ?_⟩) hBr ?_
        · go_simp
        simp only [List.getElem_toArray, List.getElem_cons_succ, List.getElem_cons_zero, Act.put, List.setIfInBounds_toArray, List.set_cons_zero, List.set_cons_succ]
        refine wpAnyH_take (i := 30) (v := .int .i64 c0.days) rfl (by kernel_rfl) (by kernel_rfl) (by kernel_rfl) (fun _ _ _ h => h) (Or.inl ⟨by kernel_rfl, fun w' hSw => ?_⟩) hBr ?_
        · (have hcx := HX.out.2.2.2.2.1 w' hSw; go_simp)
        simp only [List.getElem_toArray, List.getElem_cons_succ, List.getElem_cons_zero, Act.put, List.setIfInBounds_toArray, List.set_cons_zero, List.set_cons_succ]
        refine wpAnyH_ready (rs := [5, 32]) (by kernel_rfl) (by simp) ?_
        refine AllReadyH.cons rfl (fun K hK => ?_) ?_
        · go_simp
          refine (HI1.out _ hBr).mono ?_
          rintro e u1 ⟨rfl, d1⟩
          have hb1 := hBr.trans (d1.mono hBr.size)
          refine Shut.out hK _ _ hb1 (fun _ => ?_)
          clear hK K
          refine wpAnyH_ready (rs := [11, 32]) (by kernel_rfl) (by simp) ?_
          refine AllReadyH.cons rfl (fun K hK => ?_) ?_
          · go_simp
            refine (HI2.out _ hb1).mono ?_
            rintro e u2 ⟨rfl, d2⟩
            have hb2 := hb1.trans (d2.mono hb1.size)
            refine Shut.out hK _ _ hb2 (fun _ => ?_)
            clear hK K
            refine wpAnyH_ready (rs := [14, 32]) (by kernel_rfl) (by simp) ?_
            refine AllReadyH.cons rfl (fun K hK => ?_) ?_
            · go_simp
              refine (HI3.out _ hb2).mono ?_
              rintro e u3 ⟨rfl, d3⟩
              have hb3 := hb2.trans (d3.mono hb2.size)
              refine Shut.out hK _ _ hb3 (fun _ => ?_)
              clear hK K
              refine wpAnyH_take (i := 20) (v := .agg #[.int .i64 c0.pbn, .int .i64 c0.pbb, .int .i64 c0.pbs, .int .i64 c0.psize, .string c0.etag]) rfl (by kernel_rfl) (by kernel_rfl) (by kernel_rfl) (fun _ _ _ h => h) (Or.inl ⟨by kernel_rfl, fun w' hSw => ?_⟩) hb3 ?_
              · go_simp
              simp only [List.getElem_toArray, List.getElem_cons_succ, List.getElem_cons_zero, Act.put, List.setIfInBounds_toArray, List.set_cons_zero, List.set_cons_succ]
              refine wpAnyH_take (i := 31) (v := .agg #[.int .i64 c0.kind, .int .i64 c0.idn, .int .i64 c0.idb, .int .i64 c0.ids, .string c0.bucket, .string c0.key, .int .i64 c0.upn, .int .i64 c0.upb, .int .i64 c0.ups, .int .i64 c0.pbn, .int .i64 c0.pbb, .int .i64 c0.pbs, .int .i64 c0.psize, .string c0.etag, .int .i64 c0.part, .slice A7 xs7.length k7, .int .i64 c0.time, .int .i64 c0.days]) rfl (by kernel_rfl) (by kernel_rfl) (by kernel_rfl) (fun _ _ _ h => h) (Or.inl ⟨by kernel_rfl, fun w' hSw => ?_⟩) hb3 ?_
              · go_simp
              simp only [List.getElem_toArray, List.getElem_cons_succ, List.getElem_cons_zero, Act.put, List.setIfInBounds_toArray, List.set_cons_zero, List.set_cons_succ]
              refine wpAnyH_ready (rs := [32]) (by kernel_rfl) (by simp) ?_
              refine AllReadyH.cons rfl (fun K hK => ?_) ?_
              · go_simp
                have hb4 : Below w8.heap.size w8 (World.alloc u3 (.cells zCells 81)) := hb3.alloc hb3.size _
                have hz4 := Blk.new u3 81 zCells
                have hl4 := hb3.size
                refine Shut.out hK _ _ hb4 (fun _ => ?_)
                clear hK K
                refine wpAnyH_ready (rs := [33]) (by kernel_rfl) (by simp) ?_
                refine AllReadyH.cons rfl (fun K hK => ?_) ?_
                · have hb9 : Below w8.heap.size w8 (World.alloc u3 (.cells (c0.cells (.slice A7 xs7.length k7)).toArray 81)) := hb3.alloc hb3.size _
                  have hY9 := Blk.new u3 81 (c0.cells (.slice A7 xs7.length k7)).toArray
                  have H9 := Lib.hid (And.intro hY9 hb9)
                  clear hY9
                  go_simp
                  refine Shut.out hK _ _ hb9 (fun _ => ?_)
                  clear hK K
                  refine wpAnyH_done (by kernel_rfl) ?_ _
                  go_wp2_with (fail)
                  go_meet
                  exact ⟨_, rfl, hl4, H9.out.1, H9.out.2⟩
                exact AllReadyH.nil
              exact AllReadyH.nil
            refine AllReadyH.cons rfl (fun K hK => ?_) ?_
            · go_simp
              have hb6 : Below w8.heap.size w8 (World.alloc u2 (.cells zCells 81)) := hb2.alloc hb2.size _
              have hz6 := Blk.new u2 81 zCells
              have hl6 := hb2.size
              refine Shut.out hK _ _ hb6 (fun _ => ?_)
              clear hK K
              refine wpAnyH_ready (rs := [14]) (by kernel_rfl) (by simp) ?_
              refine AllReadyH.cons rfl (fun K hK => ?_) ?_
              · go_simp
                refine (HI3.out _ hb6).mono ?_
                rintro e u7 ⟨rfl, d7⟩
                have hb7 := hb6.trans (d7.mono hb6.size)
                have hz7 := hz6.below d7 hz6.lt
                refine Shut.out hK _ _ hb7 (fun _ => ?_)
                clear hK K
                refine wpAnyH_take (i := 20) (v := .agg #[.int .i64 c0.pbn, .int .i64 c0.pbb, .int .i64 c0.pbs, .int .i64 c0.psize, .string c0.etag]) rfl (by kernel_rfl) (by kernel_rfl) (by kernel_rfl) (fun _ _ _ h => h) (Or.inl ⟨by kernel_rfl, fun w' hSw => ?_⟩) hb7 ?_
                · go_simp
                simp only [List.getElem_toArray, List.getElem_cons_succ, List.getElem_cons_zero, Act.put, List.setIfInBounds_toArray, List.set_cons_zero, List.set_cons_succ]
                refine wpAnyH_take (i := 31) (v := .agg #[.int .i64 c0.kind, .int .i64 c0.idn, .int .i64 c0.idb, .int .i64 c0.ids, .string c0.bucket, .string c0.key, .int .i64 c0.upn, .int .i64 c0.upb, .int .i64 c0.ups, .int .i64 c0.pbn, .int .i64 c0.pbb, .int .i64 c0.pbs, .int .i64 c0.psize, .string c0.etag, .int .i64 c0.part, .slice A7 xs7.length k7, .int .i64 c0.time, .int .i64 c0.days]) rfl (by kernel_rfl) (by kernel_rfl) (by kernel_rfl) (fun _ _ _ h => h) (Or.inl ⟨by kernel_rfl, fun w' hSw => ?_⟩) hb7 ?_
                · go_simp
                simp only [List.getElem_toArray, List.getElem_cons_succ, List.getElem_cons_zero, Act.put, List.setIfInBounds_toArray, List.set_cons_zero, List.set_cons_succ]
                refine wpAnyH_ready (rs := [33]) (by kernel_rfl) (by simp) ?_
                refine AllReadyH.cons rfl (fun K hK => ?_) ?_
                · obtain ⟨W9, e1, hY9, q1, _, q3⟩ := store81 (c0.cells (.slice A7 xs7.length k7)).toArray hz7 rfl hone
                  have hb9 : Below w8.heap.size w8 W9 := ((Fr.of_below hb7 (fun _ => False)).trans (q3 w8.heap.size _ (.inr hl6))).below (fun _ _ h => h)
                  have H9 := Lib.hid (And.intro hY9 hb9)
                  simp [go_sem, Cmd.cells] at e1
                  clear q1 q3 hY9
                  go_simp
                  refine Shut.out hK _ _ hb9 (fun _ => ?_)
                  clear hK K
                  refine wpAnyH_done (by kernel_rfl) ?_ _
                  go_wp2_with (fail)
                  go_meet
                  exact ⟨_, rfl, hl6, H9.out.1, H9.out.2⟩
                exact AllReadyH.nil
              exact AllReadyH.nil
            exact AllReadyH.nil
          refine AllReadyH.cons rfl (fun K hK => ?_) ?_
          · go_simp
            have hb9 : Below w8.heap.size w8 (World.alloc u1 (.cells zCells 81)) := hb1.alloc hb1.size _
            have hz9 := Blk.new u1 81 zCells
            have hl9 := hb1.size
            refine Shut.out hK _ _ hb9 (fun _ => ?_)
            clear hK K
            refine wpAnyH_ready (rs := [11]) (by kernel_rfl) (by simp) ?_
            refine AllReadyH.cons rfl (fun K hK => ?_) ?_
            · go_simp
              refine (HI2.out _ hb9).mono ?_
              rintro e u10 ⟨rfl, d10⟩
              have hb10 := hb9.trans (d10.mono hb9.size)
              have hz10 := hz9.below d10 hz9.lt
              refine Shut.out hK _ _ hb10 (fun _ => ?_)
              clear hK K
              refine wpAnyH_ready (rs := [14]) (by kernel_rfl) (by simp) ?_
              refine AllReadyH.cons rfl (fun K hK => ?_) ?_
              · go_simp
                refine (HI3.out _ hb10).mono ?_
                rintro e u11 ⟨rfl, d11⟩
                have hb11 := hb10.trans (d11.mono hb10.size)
                have hz11 := hz10.below d11 hz10.lt
                refine Shut.out hK _ _ hb11 (fun _ => ?_)
                clear hK K
                refine wpAnyH_take (i := 20) (v := .agg #[.int .i64 c0.pbn, .int .i64 c0.pbb, .int .i64 c0.pbs, .int .i64 c0.psize, .string c0.etag]) rfl (by kernel_rfl) (by kernel_rfl) (by kernel_rfl) (fun _ _ _ h => h) (Or.inl ⟨by kernel_rfl, fun w' hSw => ?_⟩) hb11 ?_
                · go_simp
                simp only [List.getElem_toArray, List.getElem_cons_succ, List.getElem_cons_zero, Act.put, List.setIfInBounds_toArray, List.set_cons_zero, List.set_cons_succ]
                refine wpAnyH_take (i := 31) (v := .agg #[.int .i64 c0.kind, .int .i64 c0.idn, .int .i64 c0.idb, .int .i64 c0.ids, .string c0.bucket, .string c0.key, .int .i64 c0.upn, .int .i64 c0.upb, .int .i64 c0.ups, .int .i64 c0.pbn, .int .i64 c0.pbb, .int .i64 c0.pbs, .int .i64 c0.psize, .string c0.etag, .int .i64 c0.part, .slice A7 xs7.length k7, .int .i64 c0.time, .int .i64 c0.days]) rfl (by kernel_rfl) (by kernel_rfl) (by kernel_rfl) (fun _ _ _ h => h) (Or.inl ⟨by kernel_rfl, fun w' hSw => ?_⟩) hb11 ?_
                · go_simp
                simp only [List.getElem_toArray, List.getElem_cons_succ, List.getElem_cons_zero, Act.put, List.setIfInBounds_toArray, List.set_cons_zero, List.set_cons_succ]
                refine wpAnyH_ready (rs := [33]) (by kernel_rfl) (by simp) ?_
                refine AllReadyH.cons rfl (fun K hK => ?_) ?_
                · obtain ⟨W9, e1, hY9, q1, _, q3⟩ := store81 (c0.cells (.slice A7 xs7.length k7)).toArray hz11 rfl hone
                  have hb9 : Below w8.heap.size w8 W9 := ((Fr.of_below hb11 (fun _ => False)).trans (q3 w8.heap.size _ (.inr hl9))).below (fun _ _ h => h)
                  have H9 := Lib.hid (And.intro hY9 hb9)
                  simp [go_sem, Cmd.cells] at e1
                  clear q1 q3 hY9
                  go_simp
                  refine Shut.out hK _ _ hb9 (fun _ => ?_)
                  clear hK K
                  refine wpAnyH_done (by kernel_rfl) ?_ _
                  go_wp2_with (fail)
                  go_meet
                  exact ⟨_, rfl, hl9, H9.out.1, H9.out.2⟩
                exact AllReadyH.nil
              exact AllReadyH.nil
            exact AllReadyH.nil
          exact AllReadyH.nil
        refine AllReadyH.cons rfl (fun K hK => ?_) ?_
        · go_simp
          have hb13 : Below w8.heap.size w8 (World.alloc w8.drew (.cells zCells 81)) := hBr.alloc hBr.size _
          have hz13 := Blk.new w8.drew 81 zCells
          have hl13 := hBr.size
          refine Shut.out hK _ _ hb13 (fun _ => ?_)
          clear hK K
          refine wpAnyH_ready (rs := [5]) (by kernel_rfl) (by simp) ?_
          refine AllReadyH.cons rfl (fun K hK => ?_) ?_
          · go_simp
            refine (HI1.out _ hb13).mono ?_
            rintro e u14 ⟨rfl, d14⟩
            have hb14 := hb13.trans (d14.mono hb13.size)
            have hz14 := hz13.below d14 hz13.lt
            refine Shut.out hK _ _ hb14 (fun _ => ?_)
            clear hK K
            refine wpAnyH_ready (rs := [11]) (by kernel_rfl) (by simp) ?_
            refine AllReadyH.cons rfl (fun K hK => ?_) ?_
            · go_simp
              refine (HI2.out _ hb14).mono ?_
              rintro e u15 ⟨rfl, d15⟩
              have hb15 := hb14.trans (d15.mono hb14.size)
              have hz15 := hz14.below d15 hz14.lt
              refine Shut.out hK _ _ hb15 (fun _ => ?_)
              clear hK K
              refine wpAnyH_ready (rs := [14]) (by kernel_rfl) (by simp) ?_
              refine AllReadyH.cons rfl (fun K hK => ?_) ?_
              · go_simp
                refine (HI3.out _ hb15).mono ?_
                rintro e u16 ⟨rfl, d16⟩
                have hb16 := hb15.trans (d16.mono hb15.size)
                have hz16 := hz15.below d16 hz15.lt
                refine Shut.out hK _ _ hb16 (fun _ => ?_)
                clear hK K
                refine wpAnyH_take (i := 20) (v := .agg #[.int .i64 c0.pbn, .int .i64 c0.pbb, .int .i64 c0.pbs, .int .i64 c0.psize, .string c0.etag]) rfl (by kernel_rfl) (by kernel_rfl) (by kernel_rfl) (fun _ _ _ h => h) (Or.inl ⟨by kernel_rfl, fun w' hSw => ?_⟩) hb16 ?_
                · go_simp
                simp only [List.getElem_toArray, List.getElem_cons_succ, List.getElem_cons_zero, Act.put, List.setIfInBounds_toArray, List.set_cons_zero, List.set_cons_succ]
                refine wpAnyH_take (i := 31) (v := .agg #[.int .i64 c0.kind, .int .i64 c0.idn, .int .i64 c0.idb, .int .i64 c0.ids, .string c0.bucket, .string c0.key, .int .i64 c0.upn, .int .i64 c0.upb, .int .i64 c0.ups, .int .i64 c0.pbn, .int .i64 c0.pbb, .int .i64 c0.pbs, .int .i64 c0.psize, .string c0.etag, .int .i64 c0.part, .slice A7 xs7.length k7, .int .i64 c0.time, .int .i64 c0.days]) rfl (by kernel_rfl) (by kernel_rfl) (by kernel_rfl) (fun _ _ _ h => h) (Or.inl ⟨by kernel_rfl, fun w' hSw => ?_⟩) hb16 ?_
                · go_simp
                simp only [List.getElem_toArray, List.getElem_cons_succ, List.getElem_cons_zero, Act.put, List.setIfInBounds_toArray, List.set_cons_zero, List.set_cons_succ]
                refine wpAnyH_ready (rs := [33]) (by kernel_rfl) (by simp) ?_
                refine AllReadyH.cons rfl (fun K hK => ?_) ?_
                · obtain ⟨W9, e1, hY9, q1, _, q3⟩ := store81 (c0.cells (.slice A7 xs7.length k7)).toArray hz16 rfl hone
                  have hb9 : Below w8.heap.size w8 W9 := ((Fr.of_below hb16 (fun _ => False)).trans (q3 w8.heap.size _ (.inr hl13))).below (fun _ _ h => h)
                  have H9 := Lib.hid (And.intro hY9 hb9)
                  simp [go_sem, Cmd.cells] at e1
                  clear q1 q3 hY9
                  go_simp
                  refine Shut.out hK _ _ hb9 (fun _ => ?_)
                  clear hK K
                  refine wpAnyH_done (by kernel_rfl) ?_ _
                  go_wp2_with (fail)
                  go_meet
                  exact ⟨_, rfl, hl13, H9.out.1, H9.out.2⟩
                exact AllReadyH.nil
              exact AllReadyH.nil
            exact AllReadyH.nil
          exact AllReadyH.nil
        exact AllReadyH.nil
      case rest =>
      obtain ⟨z, rfl, hz, hZ, hB8⟩ := hcut
      have hO := OwnInts.wider (OwnInts.fr O7.out (Fr.of_below hB8 (fun _ => False)) (Nat.le_refl _) (fun _ _ _ h => h)) (Nat.le_refl _) hB8.size
      rw [← HP0.out.2] at hO
      obtain ⟨pv, hpv⟩ : ∃ pv, pv = Value.slice A7 c0.parts.length k7 := ⟨_, rfl⟩
      rw [← HP0.out.2, ← hpv] at hZ
      rw [← hpv] at hO
      rw [← HP0.out.2, ← hpv] at hone
      have hsz := (pCmd_inv HS.out.h256 HP0.out.1).1
      have hz0 : c0.Sized := ⟨by simp only [maxLen]; omega, by simp only [maxLen]; omega, by simp only [maxLen]; omega⟩
      have hYz := (HB.out.2 _ HF08.out).below hB8 (HB.out.2 _ HF08.out).lt
      have hBw := (HB.out.1 _ HF08.out).trans (hB8.mono (HB.out.1 _ HF08.out).size)
      have k46 := inForm_any c0 hz0 wc w.heap.size wc.heap.size pv hO.at_ (Nat.le_refl _)
      rw [in_chk] at k46
      have hrZ := hZ.range
      have hyz : y ≠ z := by have := (HB.out.2 _ HF08.out).lt; omega
      have R := Lib.hid (And.intro hO (And.intro hZ (And.intro hYz hBw)))
      have HK46 := Lib.hid k46
      clear hO hZ hYz hBw hB8 hpv hsz hz0 k46
      cases hck : chkB c0 with
      | false =>
        have HC := Lib.hid hck
        clear hck
        go_wp2_with (first
          | ((with_reducible refine law_load 81 (.tmp 21) z 0 (c0.cells pv) ?_ hrZ Tryd.underlying81 ?_ ?_ ?_); rfl; rfl; exact cmd_info)
          | (go_at_call 46; refine HK46.out.mono ?_; rintro e w9 ⟨rfl, b9⟩; rw [HC.out]; have hY9 := R.out.2.2.1.below b9 R.out.2.2.1.lt; have HB9 := Lib.hid (R.out.2.2.2.trans (b9.mono R.out.2.2.2.size)); clear b9)
          | ((with_reducible refine law_store_row 81 (.tmp 2) (.tmp 144) y 81 zCells zCells hY9 ?_ ?_ hzc rfl hzo ?_); rfl; rfl; intro W10 hY10 hF10 hs10; have H10 := Lib.hid (And.intro hY10 (And.intro hF10 hs10)); clear hY10 hF10 hs10)
          | fail)
        have hld := run_loadVar_mid (P := Tryd.prog) W10 y 0 81 (zeroCmd.cells (.slice none 0 0)) _ (Blk.range H10.out.1) Tryd.underlying81 rfl cmd_info
        have hend : RGetPost bs w (.returned (.tuple #[.agg (zeroCmd.cells (.slice none 0 0)).toArray, .bool false])) W10 :=
          .inr ⟨fun c' hc' => (by rw [HP0.out.1] at hc'; injection hc' with hc'; injection hc' with hc' _; rw [← hc']; exact HC.out), rfl, ((Fr.of_below HB9.out (fun _ => False)).trans (H10.out.2.1.mono (S' := fun _ => False) HB9.out.size (fun k hk he => by have := H0.out.2.2.2; omega))).below (fun _ _ h => h)⟩
        have HEND := Lib.hid hend
        clear hend
        simp [go_sem] at hld
        exact bodyPost_ret (v := .tuple #[.agg (zeroCmd.cells (.slice none 0 0)).toArray, .bool false]) (by simp [results, Tryd.results50, go_sem, hld]) rfl HEND.out
      | true =>
        have HC := Lib.hid hck
        clear hck
        obtain ⟨CS, hCS⟩ : ∃ cs, cs = c0.cells pv := ⟨_, rfl⟩
        have HCS := Lib.hid hCS
        rw [← hCS] at hone hrZ
        have hc18 : (Tryd.prog.info? 81).map (·.size) = some CS.length := by rw [hCS]; exact cmd_info
        have hc18' : (Tryd.prog.info? 81).map (·.size) = some CS.toArray.size := by rw [hCS]; exact cmd_info
        have hold : zCells.size = CS.toArray.size := by rw [hCS]; rfl
        rw [← hCS] at HK46
        clear hCS
        go_wp2_with (first
          | ((with_reducible refine law_load 81 (.tmp 21) z 0 CS ?_ hrZ Tryd.underlying81 ?_ hc18 ?_); rfl; rfl)
          | ((with_reducible refine law_load 81 (.tmp 21) z 0 CS ?_ hr9 Tryd.underlying81 ?_ hc18 ?_); rfl; rfl)
          | (go_at_call 46; refine HK46.out.mono ?_; rintro e w9 ⟨rfl, b9⟩; rw [HC.out]; have hY9 := R.out.2.2.1.below b9 R.out.2.2.1.lt; have hr9 := (R.out.2.1.below b9 R.out.2.1.lt).range; rw [← HCS.out] at hr9; have HB9 := Lib.hid (And.intro (R.out.2.2.2.trans (b9.mono R.out.2.2.2.size)) b9); clear b9)
          | ((with_reducible refine law_store_row 81 (.tmp 2) (.tmp 145) y 81 zCells CS.toArray hY9 ?_ ?_ hc18' hold hone ?_); rfl; rfl; intro W10 hY10 hF10 hs10; have H10 := Lib.hid (And.intro hY10 (And.intro hF10 hs10)); clear hY10 hF10 hs10)
          | fail)
        have hld := run_loadVar_mid (P := Tryd.prog) W10 y 0 81 CS _ (Blk.range H10.out.1) Tryd.underlying81 rfl hc18
        have ho9 := OwnInts.fr R.out.1 (Fr.of_below HB9.out.2 (fun _ => False)) (Nat.le_refl _) (fun _ _ _ h => h)
        have ho10 := OwnInts.wider (OwnInts.frz ho9 H10.out.2.1 hY9 (by decide)) (Nat.le_refl _) (Nat.le_trans HB9.out.2.size (Nat.le_of_eq H10.out.2.2.symm))
        have hend : RGetPost bs w (.returned (.tuple #[.agg CS.toArray, .bool true])) W10 := by
          rw [HCS.out]
          exact .inl ⟨c0, pv, HP0.out.1, HC.out, rfl, ho10, ((Fr.of_below HB9.out.1 (fun _ => False)).trans (H10.out.2.1.mono (S' := fun _ => False) HB9.out.1.size (fun k hk he => by have := H0.out.2.2.2; omega))).below (fun _ _ h => h)⟩
        have HEND := Lib.hid hend
        clear hend
        simp [go_sem] at hld
        exact bodyPost_ret (v := .tuple #[.agg CS.toArray, .bool true]) (by simp [results, Tryd.results50, go_sem, hld]) rfl HEND.out
end Go.Proofs.YtnlncfjibbdimaaDoor
