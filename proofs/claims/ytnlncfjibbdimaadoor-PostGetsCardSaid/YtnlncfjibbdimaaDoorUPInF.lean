/-
  The document's InForm of messages, by kind.
-/
import Derived.Test.YtnlncfjibbdimaaDoorULedgersW
namespace Go.Proofs.YtnlncfjibbdimaaDoor
open Go.RowKit
set_option linter.unusedSimpArgs false
set_option linter.unusedVariables false
set_option maxRecDepth 100000 in
set_option maxHeartbeats 40000000 in
theorem pin_coreF (kind frm to_ tn tb ts br bn ar an : Int) (led : List Cmd) (xn xb xs : Int) (okm : Bool) (frame : List Nat) (lA fA : Option Addr) (nl lc nf fc : Nat) (w : World) (lo hi : Nat) (hnl : Hid (nl = led.length)) (hnf : Hid (nf = frame.length)) (r : Bool) (HR : Hid (r = chkM ⟨kind, frm, to_, tn, tb, ts, br, bn, ar, an, led, xn, xb, xs, okm, frame⟩))
    (hm : Hid (MsgAt w lo hi (.slice lA nl lc) (.slice fA nf fc) ⟨kind, frm, to_, tn, tb, ts, br, bn, ar, an, led, xn, xb, xs, okm, frame⟩)) (hkk : Hid (kind = 9)) (hex : Hid (okm = true)) :
    Calls Tryd.prog 79 #[.agg #[.int .i64 kind, .int .i64 frm, .int .i64 to_, .int .i64 tn, .int .i64 tb, .int .i64 ts, .int .i64 br, .int .i64 bn, .int .i64 ar, .int .i64 an, .slice lA nl lc, .int .i64 xn, .int .i64 xb, .int .i64 xs, .bool okm, .slice fA nf fc]] w (YesNo r w) := by
  have k41t := fun w => rgoodId_any tn tb ts w
  have k41x := fun w => rgoodId_any xn xb xs w
  have k57b := fun w => rlegal_any br bn w
  have k57a := fun w => rlegal_any ar an w
  have hqe := eqb23 ar an 0 0
  have hqn := neb23 ar an 0 0
  unfold IdPost at k41t k41x
  obtain ⟨e3, he3⟩ : ∃ x, x = gid tn tb ts := ⟨_, rfl⟩
  obtain ⟨gx, hgx⟩ : ∃ x, x = gid xn xb xs := ⟨_, rfl⟩
  obtain ⟨lgb, hlgb⟩ : ∃ x, x = lg br bn := ⟨_, rfl⟩
  obtain ⟨lga, hlga⟩ : ∃ x, x = lg ar an := ⟨_, rfl⟩
  obtain ⟨na, hna⟩ : ∃ x, x = noB ar an := ⟨_, rfl⟩
  obtain ⟨gl, hgl⟩ : ∃ x, x = goodLed led := ⟨_, rfl⟩
  rw [← he3] at k41t
  rw [← hgx] at k41x
  rw [← hlgb] at k57b
  rw [← hlga] at k57a
  rw [show (decide (ar = 0) && decide (an = 0)) = na from hna.symm] at hqe hqn
  have HE := Lib.hid (And.intro he3 (And.intro hgx (And.intro hlgb (And.intro hlga (And.intro hna hgl)))))
  clear he3 hgx hlgb hlga hna hgl
  have hb0 : Below w.heap.size w (w.alloc (.cells #[.int .i64 kind, .int .i64 frm, .int .i64 to_, .int .i64 tn, .int .i64 tb, .int .i64 ts, .int .i64 br, .int .i64 bn, .int .i64 ar, .int .i64 an, .slice lA nl lc, .int .i64 xn, .int .i64 xb, .int .i64 xs, .bool okm, .slice fA nf fc] 143)) := (Below.refl _ _).alloc (Nat.le_refl _) _
  have no : ∀ {p : Prop}, (chkM ⟨kind, frm, to_, tn, tb, ts, br, bn, ar, an, led, xn, xb, xs, okm, frame⟩ = true → False) → r = false := fun h => by
    have := HR.out
    rw [this]
    exact Bool.eq_false_iff.2 h
  by_cases a1 : frm < 0
  · have hr : r = false := no (p := True) (fun h => by unfold chkM fineM nodeB at h; simp only [Bool.and_eq_true, decide_eq_true_eq] at h; omega)
    have HRF := Lib.hid hr
    clear no hr
    go_enter Tryd.func79, Tryd.ntmps79
    go_wp2_with (fail)
    go_ret
    exact ⟨ret_bool HRF.out.symm, hb0⟩
  by_cases a2 : 15 < frm
  · have hr : r = false := no (p := True) (fun h => by unfold chkM fineM nodeB at h; simp only [Bool.and_eq_true, decide_eq_true_eq] at h; omega)
    have HRF := Lib.hid hr
    clear no hr
    go_enter Tryd.func79, Tryd.ntmps79
    go_wp2_with (fail)
    go_ret
    exact ⟨ret_bool HRF.out.symm, hb0⟩
  by_cases a3 : to_ < 0
  · have hr : r = false := no (p := True) (fun h => by unfold chkM fineM nodeB at h; simp only [Bool.and_eq_true, decide_eq_true_eq] at h; omega)
    have HRF := Lib.hid hr
    clear no hr
    go_enter Tryd.func79, Tryd.ntmps79
    go_wp2_with (fail)
    go_ret
    exact ⟨ret_bool HRF.out.symm, hb0⟩
  by_cases a4 : 15 < to_
  · have hr : r = false := no (p := True) (fun h => by unfold chkM fineM nodeB at h; simp only [Bool.and_eq_true, decide_eq_true_eq] at h; omega)
    have HRF := Lib.hid hr
    clear no hr
    go_enter Tryd.func79, Tryd.ntmps79
    go_wp2_with (fail)
    go_ret
    exact ⟨ret_bool HRF.out.symm, hb0⟩
  cases e3 with
  | false =>
    have hr : r = false := no (p := True) (fun h => by unfold chkM fineM at h; rw [← HE.out.1] at h; simp at h)
    have HRF := Lib.hid hr
    clear no hr
    go_enter Tryd.func79, Tryd.ntmps79
    go_wp2_with (first | (go_at_call 41; (with_reducible refine (k41t _).mono ?_); rintro e w1 ⟨rfl, b1⟩) | fail)
    go_ret
    exact ⟨ret_bool HRF.out.symm, hb0.trans (b1.mono hb0.size)⟩
  | true =>
    have HNO := Lib.hid (And.intro @no trivial)
    have HA := Lib.hid (show nodeB frm = true ∧ nodeB to_ = true from ⟨by unfold nodeB; simp; omega, by unfold nodeB; simp; omega⟩)
    clear no
    go_enter Tryd.func79, Tryd.ntmps79
    go_upto_region 3 with (first | (go_at_call 41; (with_reducible refine (k41t _).mono ?_); rintro e w1 ⟨rfl, b1⟩) | fail)
    refine wp_letter (fun W => Below w.heap.size w W ∧ Blk W w.heap.size 143 #[.int .i64 kind, .int .i64 frm, .int .i64 to_, .int .i64 tn, .int .i64 tb, .int .i64 ts, .int .i64 br, .int .i64 bn, .int .i64 ar, .int .i64 an, .slice lA nl lc, .int .i64 xn, .int .i64 xb, .int .i64 xs, .bool okm, .slice fA nf fc]) ⟨hb0.trans (b1.mono hb0.size), (Blk.new w 143 _).below b1 (by simp)⟩ ?_
    clear b1 hb0
    rintro W2 ⟨hb2, hX2⟩
    obtain ⟨x, hx⟩ : ∃ x, x = w.heap.size := ⟨_, rfl⟩
    rw [← hx] at hX2 ⊢
    have cX := hX2.cell
    have hxl := hX2.lt
    have HX := Lib.hid (And.intro hb2 (And.intro hX2 hx))
    clear hb2 hX2 hx
    go_upto_region 5 with (fail)
    refine wp_letter (fun W => PInS w x W2.heap.size (W2.heap.size + 1) #[.int .i64 kind, .int .i64 frm, .int .i64 to_, .int .i64 tn, .int .i64 tb, .int .i64 ts, .int .i64 br, .int .i64 bn, .int .i64 ar, .int .i64 an, .slice lA nl lc, .int .i64 xn, .int .i64 xb, .int .i64 xs, .bool okm, .slice fA nf fc] #[.int .i64 kind, .int .i64 frm, .int .i64 to_, .int .i64 tn, .int .i64 tb, .int .i64 ts, .int .i64 0, .int .i64 0, .int .i64 0, .int .i64 0, .slice none 0 0, .int .i64 0, .int .i64 0, .int .i64 0, .bool false, .slice none 0 0] W) ⟨(HX.out.1.alloc HX.out.1.size _).alloc (by have := HX.out.1.size; simp; omega) _, (HX.out.2.1.alloc _).alloc _, (Blk.new W2 23 _).alloc _, Blk.new1 W2 _ 143 _, ⟨by have := HX.out.2.2; omega, HX.out.1.size, by have := HX.out.1.size; omega⟩, by omega, by omega⟩ ?_
    rintro W3 hS
    obtain ⟨y, hy⟩ : ∃ y, y = W2.heap.size := ⟨_, rfl⟩
    obtain ⟨z, hz⟩ : ∃ z, z = W2.heap.size + 1 := ⟨_, rfl⟩
    rw [← hz, ← hy] at hS
    rw [← hz, ← hy]
    clear hy hz cX hxl HX
    have HS := Lib.hid hS
    have cX := hS.hx.cell
    have cY := hS.hy.cell
    have cZ := hS.hz.cell
    have fZ := hS.hz.frozen
    clear hS

    by_cases k9 : kind = 9
    · subst k9
      go_upto_region 11 with (fail)
      refine wp_letter (fun W => PInS w x y z #[.int .i64 9, .int .i64 frm, .int .i64 to_, .int .i64 tn, .int .i64 tb, .int .i64 ts, .int .i64 br, .int .i64 bn, .int .i64 ar, .int .i64 an, .slice lA nl lc, .int .i64 xn, .int .i64 xb, .int .i64 xs, .bool okm, .slice fA nf fc] #[.int .i64 9, .int .i64 frm, .int .i64 to_, .int .i64 tn, .int .i64 tb, .int .i64 ts, .int .i64 0, .int .i64 0, .int .i64 0, .int .i64 0, .slice none 0 0, .int .i64 xn, .int .i64 xb, .int .i64 xs, .bool false, .slice none 0 0] W) (((HS.out.set 11 (.int .i64 xn)).set 12 (.int .i64 xb)).set 13 (.int .i64 xs)) ?_
      clear cX cY cZ fZ
      rintro W4 hH4
      have H4 := Lib.hid hH4
      clear hH4
      have cX := H4.out.hx.cell
      have cY := H4.out.hy.cell
      have cZ := H4.out.hz.cell
      have fZ := H4.out.hz.frozen
      cases gx with
      | false =>
        have HRF := Lib.hid (show r = false from HNO.out.1 (p := True) (fun h => by unfold chkM fineM oddM at h; simp [mf, mkF, mkOk, ← HE.out.2.1] at h))
        go_wp2_with (first | (go_at_call 41; (with_reducible refine (k41x _).mono ?_); rintro e w5 ⟨rfl, b5⟩; have H5 := Lib.hid (H4.out.below b5); have cX := H5.out.hx.cell; have cY := H5.out.hy.cell; have cZ := H5.out.hz.cell; have fZ := H5.out.hz.frozen; clear b5) | fail)
        go_ret
        exact ⟨ret_bool HRF.out.symm, H5.out.bel⟩
      | true =>
        by_cases hn4 : 4096 < nf
        · have hn4' : (4096 : Int) < nf := by omega
          have HRF := Lib.hid (show r = false from HNO.out.1 (p := True) (fun h => by unfold chkM fineM oddM at h; simp [mf, mkF, mkOk, ← HE.out.2.1] at h <;> (have := hnf.out; grind)))
          go_wp2_with (first | (go_at_call 41; (with_reducible refine (k41x _).mono ?_); rintro e w5 ⟨rfl, b5⟩; have H5 := Lib.hid (H4.out.below b5); have cX := H5.out.hx.cell; have cY := H5.out.hy.cell; have cZ := H5.out.hz.cell; have fZ := H5.out.hz.frozen; clear b5) | fail)
          go_ret
          exact ⟨ret_bool HRF.out.symm, H5.out.bel⟩
        · have hn4' : ¬ (4096 : Int) < nf := by omega
          have hf8 : frame.length ≤ 4096 := by have := hnf.out; omega
          have HF8 := Lib.hid hf8
          clear hf8
          go_upto_region 33 with (first | (go_at_call 41; (with_reducible refine (k41x _).mono ?_); rintro e w5 ⟨rfl, b5⟩; have H5 := Lib.hid (H4.out.below b5); have cX := H5.out.hx.cell; have cY := H5.out.hy.cell; have cZ := H5.out.hz.cell; have fZ := H5.out.hz.frozen; clear b5) | fail)
          go_region
          go_upto_region 34 with (fail)
          refine wp_letter (fun W => PInS w x y z #[.int .i64 9, .int .i64 frm, .int .i64 to_, .int .i64 tn, .int .i64 tb, .int .i64 ts, .int .i64 br, .int .i64 bn, .int .i64 ar, .int .i64 an, .slice lA nl lc, .int .i64 xn, .int .i64 xb, .int .i64 xs, .bool okm, .slice fA nf fc] #[.int .i64 9, .int .i64 frm, .int .i64 to_, .int .i64 tn, .int .i64 tb, .int .i64 ts, .int .i64 0, .int .i64 0, .int .i64 0, .int .i64 0, .slice none 0 0, .int .i64 xn, .int .i64 xb, .int .i64 xs, .bool okm, .slice fA nf fc] W) (((H5.out.set 14 (.bool okm)).set 15 (.slice fA nf fc)).below ((Below.refl _ _).drew)) ?_
          clear cX cY cZ fZ
          rintro W6 hH6
          have H6 := Lib.hid hH6
          clear hH6
          have cX := H6.out.hx.cell
          have cY := H6.out.hy.cell
          have cZ := H6.out.hz.cell
          have fZ := H6.out.hz.frozen
          cases okm with
          | true =>
            go_upto_region 36 with (fail)
            have hmW := hm.out.below H6.out.bel hm.out.hi_
            have k71 := rwrite_any W6 lo hi (.slice lA nl lc) led hmW.led hmW.hi_ hmW.sz
            unfold RWritePost at k71
            cases gl with
            | false =>
              obtain ⟨q, hq⟩ : ∃ q, q = (wans led).1 := ⟨_, rfl⟩
              have hq0 : ¬ (q : Int) = 0 := by have := wans_bad' HE.out.2.2.2.2.2.symm; omega
              rw [← hq] at k71
              have HK := Lib.hid k71
              clear k71 hq hmW
              have HRF := Lib.hid (show r = false from HNO.out.1 (p := True) (fun h => by unfold chkM fineM oddM at h; simp [mf, mkF, mkOk, ← HE.out.2.2.2.2.2] at h))
              go_wp2_with (first | (go_at_call 71; (with_reducible refine HK.out.mono ?_); rintro e w7 ⟨A7, c7, rfl, _, b7⟩; have H7 := Lib.hid (H6.out.below b7); clear b7) | fail)
              go_ret
              exact ⟨ret_bool HRF.out.symm, H7.out.bel⟩
            | true =>
              rw [wans_led HE.out.2.2.2.2.2.symm] at k71
              have HK := Lib.hid k71
              clear k71 hmW
              go_upto_region 37 with (first | (go_at_call 71; (with_reducible refine HK.out.mono ?_); rintro e w7 ⟨A7, c7, rfl, _, b7⟩; have H7 := Lib.hid (H6.out.below b7); clear b7) | fail)
              clear cX cY cZ fZ
              have hg : ∀ d os, Below w.heap.size w (Go.Sort.grow (redrawn w7 d) os) := fun d os => H7.out.bel.trans ((below_regrown w7 d os).mono H7.out.bel.size)
              obtain ⟨t, ht⟩ : ∃ t, t = tf ((⟨9, frm, to_, tn, tb, ts, br, bn, ar, an, led, xn, xb, xs, true, frame⟩ : Msg) = ⟨9, frm, to_, tn, tb, ts, 0, 0, 0, 0, [], xn, xb, xs, true, frame⟩) := ⟨_, rfl⟩
              have k78 : ∀ d os, Calls Tryd.prog 78 #[.agg #[.int .i64 9, .int .i64 frm, .int .i64 to_, .int .i64 tn, .int .i64 tb, .int .i64 ts, .int .i64 br, .int .i64 bn, .int .i64 ar, .int .i64 an, .slice lA nl lc, .int .i64 xn, .int .i64 xb, .int .i64 xs, .bool true, .slice fA nf fc], .agg #[.int .i64 9, .int .i64 frm, .int .i64 to_, .int .i64 tn, .int .i64 tb, .int .i64 ts, .int .i64 0, .int .i64 0, .int .i64 0, .int .i64 0, .slice none 0 0, .int .i64 xn, .int .i64 xb, .int .i64 xs, .bool true, .slice fA nf fc]] (Go.Sort.grow (redrawn w7 d) os) fun e w' => e = .returned (.bool t) ∧ Below (Go.Sort.grow (redrawn w7 d) os).heap.size (Go.Sort.grow (redrawn w7 d) os) w' := fun d os => by
                have h0 := hm.out.below (hg d os) hm.out.hi_
                have hz0 : MsgAt (Go.Sort.grow (redrawn w7 d) os) lo hi (.slice none 0 0) (.slice fA nf fc) ⟨9, frm, to_, tn, tb, ts, 0, 0, 0, 0, [], xn, xb, xs, true, frame⟩ := ⟨(OwnLed.nil_ _ _ _).at_, h0.frm, (fun c hc => by cases hc), h0.hi_⟩
                have := psame_any _ _ (Go.Sort.grow (redrawn w7 d) os) lo hi lo hi _ _ _ _ h0 hz0
                rw [← ht] at this
                exact this
              have hrt : r = t := by
                rw [HR.out, ht, Bool.eq_iff_iff, tf_iff, msg_ext]
                unfold chkM fineM oddM
                simp [mf, mkF, mkOk, HA.out.1, HA.out.2, ← HE.out.1, ← HE.out.2.2.2.2.2, ← HE.out.2.1]
                have f8 := HF8.out
                have f9 := HE.out.2.1.symm
                have f1 : noB ar an = true ↔ ar = 0 ∧ an = 0 := noB_iff
                have f2 : eq3 xn xb xs 0 0 0 = true ↔ xn = 0 ∧ xb = 0 ∧ xs = 0 := by simp [eq3]
                have f3 : xn = 0 ∧ xb = 0 ∧ xs = 0 → gid xn xb xs = true := by rintro ⟨rfl, rfl, rfl⟩; decide
                have f4 : frame = [] → frame.length ≤ 4096 := by rintro rfl; simp
                have f5 : br = 0 ∧ bn = 0 ↔ noB br bn = true := noB_iff.symm
                have f6 : noB ar an = false ↔ ¬ noB ar an = true := by simp
                have f7 : ∀ {r n : Int}, lg r n = true → ¬ noB r n = true := fun h1 h2 => by have := lg_iff.1 h1; have := noB_iff.1 h2; omega
                grind
              have cX : ∀ d os i, (Go.Sort.grow (redrawn w7 d) os).cell? ⟨x, i, none⟩ = (#[.int .i64 9, .int .i64 frm, .int .i64 to_, .int .i64 tn, .int .i64 tb, .int .i64 ts, .int .i64 br, .int .i64 bn, .int .i64 ar, .int .i64 an, .slice lA nl lc, .int .i64 xn, .int .i64 xb, .int .i64 xs, .bool true, .slice fA nf fc] : Array Value)[i]? := fun d os => (H7.out.hx.below (below_regrown w7 d os) H7.out.hx.lt).cell
              have cZ : ∀ d os i, (Go.Sort.grow (redrawn w7 d) os).cell? ⟨z, i, none⟩ = (#[.int .i64 9, .int .i64 frm, .int .i64 to_, .int .i64 tn, .int .i64 tb, .int .i64 ts, .int .i64 0, .int .i64 0, .int .i64 0, .int .i64 0, .slice none 0 0, .int .i64 xn, .int .i64 xb, .int .i64 xs, .bool true, .slice fA nf fc] : Array Value)[i]? := fun d os => (H7.out.hz.below (below_regrown w7 d os) H7.out.hz.lt).cell
              have HRT := Lib.hid hrt
              clear hrt ht hg hqe hqn
              refine wp_region_lit_below ?_
              repeat (go_big_quiet_step (first | (with_reducible exact Calls.regrown_of (k78 _ _)) | fail))
              refine wpQuiet_nil ?_
              intro _ hw'
              obtain ⟨⟨dq, osq⟩, hw''⟩ := hw'
              subst hw''
              go_wp2_with (fail)
              go_ret
              exact ⟨ret_bool HRT.out.symm, H7.out.bel.trans ((below_regrown w7 dq osq).mono H7.out.bel.size)⟩
          | false =>
            have h1 := hex.out; cases h1
    have hkk2 := hkk.out
    omega
end Go.Proofs.YtnlncfjibbdimaaDoor
