/-
  The document's InForm of messages, by kind.
-/
import Derived.Test.YtnlncfjibbdimaaDoorULedgersW
namespace Go.Proofs.YtnlncfjibbdimaaDoor
open Go.RowKit
set_option linter.unusedSimpArgs false
set_option linter.unusedVariables false
set_option maxRecDepth 100000 in
set_option maxHeartbeats 40000000 in
theorem pin_coreG (kind frm to_ tn tb ts br bn ar an : Int) (led : List Cmd) (xn xb xs : Int) (okm : Bool) (frame : List Nat) (lA fA : Option Addr) (nl lc nf fc : Nat) (w : World) (lo hi : Nat) (hnl : Hid (nl = led.length)) (hnf : Hid (nf = frame.length)) (r : Bool) (HR : Hid (r = chkM ⟨kind, frm, to_, tn, tb, ts, br, bn, ar, an, led, xn, xb, xs, okm, frame⟩))
    (hm : Hid (MsgAt w lo hi (.slice lA nl lc) (.slice fA nf fc) ⟨kind, frm, to_, tn, tb, ts, br, bn, ar, an, led, xn, xb, xs, okm, frame⟩)) (hkk : Hid (kind < 1 ∨ 9 < kind)) (hex : Hid (True)) :
    Calls Tryd.prog 79 #[.agg #[.int .i64 kind, .int .i64 frm, .int .i64 to_, .int .i64 tn, .int .i64 tb, .int .i64 ts, .int .i64 br, .int .i64 bn, .int .i64 ar, .int .i64 an, .slice lA nl lc, .int .i64 xn, .int .i64 xb, .int .i64 xs, .bool okm, .slice fA nf fc]] w (YesNo r w) := by
  have k41t := fun w => rgoodId_any tn tb ts w
  have k41x := fun w => rgoodId_any xn xb xs w
  have k57b := fun w => rlegal_any br bn w
  have k57a := fun w => rlegal_any ar an w
  have hqe := eqb23 ar an 0 0
  have hqn := neb23 ar an 0 0
  unfold IdPost at k41t k41x
  obtain ⟨e3, he3⟩ : ∃ x, x = gid tn tb ts := ⟨_, rfl⟩
  obtain ⟨gx, hgx⟩ : ∃ x, x = gid xn xb xs := ⟨_, rfl⟩
  obtain ⟨lgb, hlgb⟩ : ∃ x, x = lg br bn := ⟨_, rfl⟩
  obtain ⟨lga, hlga⟩ : ∃ x, x = lg ar an := ⟨_, rfl⟩
  obtain ⟨na, hna⟩ : ∃ x, x = noB ar an := ⟨_, rfl⟩
  obtain ⟨gl, hgl⟩ : ∃ x, x = goodLed led := ⟨_, rfl⟩
  rw [← he3] at k41t
  rw [← hgx] at k41x
  rw [← hlgb] at k57b
  rw [← hlga] at k57a
  rw [show (decide (ar = 0) && decide (an = 0)) = na from hna.symm] at hqe hqn
  have HE := Lib.hid (And.intro he3 (And.intro hgx (And.intro hlgb (And.intro hlga (And.intro hna hgl)))))
  clear he3 hgx hlgb hlga hna hgl
  have hb0 : Below w.heap.size w (w.alloc (.cells #[.int .i64 kind, .int .i64 frm, .int .i64 to_, .int .i64 tn, .int .i64 tb, .int .i64 ts, .int .i64 br, .int .i64 bn, .int .i64 ar, .int .i64 an, .slice lA nl lc, .int .i64 xn, .int .i64 xb, .int .i64 xs, .bool okm, .slice fA nf fc] 143)) := (Below.refl _ _).alloc (Nat.le_refl _) _
  have no : ∀ {p : Prop}, (chkM ⟨kind, frm, to_, tn, tb, ts, br, bn, ar, an, led, xn, xb, xs, okm, frame⟩ = true → False) → r = false := fun h => by
    have := HR.out
    rw [this]
    exact Bool.eq_false_iff.2 h
  by_cases a1 : frm < 0
  · have hr : r = false := no (p := True) (fun h => by unfold chkM fineM nodeB at h; simp only [Bool.and_eq_true, decide_eq_true_eq] at h; omega)
    have HRF := Lib.hid hr
    clear no hr
    go_enter Tryd.func79, Tryd.ntmps79
    go_wp2_with (fail)
    go_ret
    exact ⟨ret_bool HRF.out.symm, hb0⟩
  by_cases a2 : 15 < frm
  · have hr : r = false := no (p := True) (fun h => by unfold chkM fineM nodeB at h; simp only [Bool.and_eq_true, decide_eq_true_eq] at h; omega)
    have HRF := Lib.hid hr
    clear no hr
    go_enter Tryd.func79, Tryd.ntmps79
    go_wp2_with (fail)
    go_ret
    exact ⟨ret_bool HRF.out.symm, hb0⟩
  by_cases a3 : to_ < 0
  · have hr : r = false := no (p := True) (fun h => by unfold chkM fineM nodeB at h; simp only [Bool.and_eq_true, decide_eq_true_eq] at h; omega)
    have HRF := Lib.hid hr
    clear no hr
    go_enter Tryd.func79, Tryd.ntmps79
    go_wp2_with (fail)
    go_ret
    exact ⟨ret_bool HRF.out.symm, hb0⟩
  by_cases a4 : 15 < to_
  · have hr : r = false := no (p := True) (fun h => by unfold chkM fineM nodeB at h; simp only [Bool.and_eq_true, decide_eq_true_eq] at h; omega)
    have HRF := Lib.hid hr
    clear no hr
    go_enter Tryd.func79, Tryd.ntmps79
    go_wp2_with (fail)
    go_ret
    exact ⟨ret_bool HRF.out.symm, hb0⟩
  cases e3 with
  | false =>
    have hr : r = false := no (p := True) (fun h => by unfold chkM fineM at h; rw [← HE.out.1] at h; simp at h)
    have HRF := Lib.hid hr
    clear no hr
    go_enter Tryd.func79, Tryd.ntmps79
    go_wp2_with (first | (go_at_call 41; (with_reducible refine (k41t _).mono ?_); rintro e w1 ⟨rfl, b1⟩) | fail)
    go_ret
    exact ⟨ret_bool HRF.out.symm, hb0.trans (b1.mono hb0.size)⟩
  | true =>
    have HNO := Lib.hid (And.intro @no trivial)
    have HA := Lib.hid (show nodeB frm = true ∧ nodeB to_ = true from ⟨by unfold nodeB; simp; omega, by unfold nodeB; simp; omega⟩)
    clear no
    go_enter Tryd.func79, Tryd.ntmps79
    go_upto_region 3 with (first | (go_at_call 41; (with_reducible refine (k41t _).mono ?_); rintro e w1 ⟨rfl, b1⟩) | fail)
    refine wp_letter (fun W => Below w.heap.size w W ∧ Blk W w.heap.size 143 #[.int .i64 kind, .int .i64 frm, .int .i64 to_, .int .i64 tn, .int .i64 tb, .int .i64 ts, .int .i64 br, .int .i64 bn, .int .i64 ar, .int .i64 an, .slice lA nl lc, .int .i64 xn, .int .i64 xb, .int .i64 xs, .bool okm, .slice fA nf fc]) ⟨hb0.trans (b1.mono hb0.size), (Blk.new w 143 _).below b1 (by simp)⟩ ?_
    clear b1 hb0
    rintro W2 ⟨hb2, hX2⟩
    obtain ⟨x, hx⟩ : ∃ x, x = w.heap.size := ⟨_, rfl⟩
    rw [← hx] at hX2 ⊢
    have cX := hX2.cell
    have hxl := hX2.lt
    have HX := Lib.hid (And.intro hb2 (And.intro hX2 hx))
    clear hb2 hX2 hx
    go_upto_region 5 with (fail)
    refine wp_letter (fun W => PInS w x W2.heap.size (W2.heap.size + 1) #[.int .i64 kind, .int .i64 frm, .int .i64 to_, .int .i64 tn, .int .i64 tb, .int .i64 ts, .int .i64 br, .int .i64 bn, .int .i64 ar, .int .i64 an, .slice lA nl lc, .int .i64 xn, .int .i64 xb, .int .i64 xs, .bool okm, .slice fA nf fc] #[.int .i64 kind, .int .i64 frm, .int .i64 to_, .int .i64 tn, .int .i64 tb, .int .i64 ts, .int .i64 0, .int .i64 0, .int .i64 0, .int .i64 0, .slice none 0 0, .int .i64 0, .int .i64 0, .int .i64 0, .bool false, .slice none 0 0] W) ⟨(HX.out.1.alloc HX.out.1.size _).alloc (by have := HX.out.1.size; simp; omega) _, (HX.out.2.1.alloc _).alloc _, (Blk.new W2 23 _).alloc _, Blk.new1 W2 _ 143 _, ⟨by have := HX.out.2.2; omega, HX.out.1.size, by have := HX.out.1.size; omega⟩, by omega, by omega⟩ ?_
    rintro W3 hS
    obtain ⟨y, hy⟩ : ∃ y, y = W2.heap.size := ⟨_, rfl⟩
    obtain ⟨z, hz⟩ : ∃ z, z = W2.heap.size + 1 := ⟨_, rfl⟩
    rw [← hz, ← hy] at hS
    rw [← hz, ← hy]
    clear hy hz cX hxl HX
    have HS := Lib.hid hS
    have cX := hS.hx.cell
    have cY := hS.hy.cell
    have cZ := hS.hz.cell
    have fZ := hS.hz.frozen
    clear hS

    have hkk2 := hkk.out
    have n1 : ∀ j : Int, 1 ≤ j → j ≤ 9 → ¬ kind = j := fun j h1 h2 h3 => by omega
    have nk1 := n1 1 (by omega) (by omega)
    have nk2 := n1 2 (by omega) (by omega)
    have nk3 := n1 3 (by omega) (by omega)
    have nk4 := n1 4 (by omega) (by omega)
    have nk5 := n1 5 (by omega) (by omega)
    have nk6 := n1 6 (by omega) (by omega)
    have nk7 := n1 7 (by omega) (by omega)
    have nk8 := n1 8 (by omega) (by omega)
    have nk9 := n1 9 (by omega) (by omega)
    clear n1
    by_cases hl : kind < 1
    · have hl2 : ¬ 1 ≤ kind := by omega
      have hl5 : ¬ 6 ≤ kind := by omega
      have HRF := Lib.hid (show r = false from HNO.out.1 (p := True) (fun h => by unfold chkM fineM mkOk at h; simp only [Bool.and_eq_true, decide_eq_true_eq] at h; omega))
      go_wp2_with (fail)
      go_ret
      exact ⟨ret_bool HRF.out.symm, HS.out.bel⟩
    · have hl2 : ¬ kind ≤ 9 := by omega
      have hl3 : ¬ kind ≤ 5 := by omega
      have hl4 : 1 ≤ kind := by omega
      have hl5 : 6 ≤ kind := by omega
      have HRF := Lib.hid (show r = false from HNO.out.1 (p := True) (fun h => by unfold chkM fineM mkOk at h; simp only [Bool.and_eq_true, decide_eq_true_eq] at h; omega))
      go_wp2_with (fail)
      go_ret
      exact ⟨ret_bool HRF.out.symm, HS.out.bel⟩
end Go.Proofs.YtnlncfjibbdimaaDoor
