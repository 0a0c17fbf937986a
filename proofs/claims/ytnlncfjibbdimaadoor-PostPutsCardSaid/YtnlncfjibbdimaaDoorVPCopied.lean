/-
  A message as new memory: bollardlaw15.copied.
-/
import Derived.Test.YtnlncfjibbdimaaDoorUPWire
import Derived.Test.YtnlncfjibbdimaaDoorUPCheck
import Derived.Test.YtnlncfjibbdimaaDoorURRead
import Derived.Test.YtnlncfjibbdimaaDoorURefWire
import Derived.Test.YtnlncfjibbdimaaDoorUWireX
import Derived.Test.YtnlncfjibbdimaaDoorUSameL
import Derived.Test.YtnlncfjibbdimaaDoorUCheck
import Derived.Test.YtnlncfjibbdimaaDoorUPiece
import Derived.Test.YtnlncfjibbdimaaDoorUKind
import Derived.Test.YtnlncfjibbdimaaDoorULex
import Derived.Test.YtnlncfjibbdimaaDoorUNames5
import Derived.Test.YtnlncfjibbdimaaDoorUBase
import Derived.Test.YtnlncfjibbdimaaDoorULaws
import Derived.Test.YtnlncfjibbdimaaDoorUSameC
import Derived.Test.YtnlncfjibbdimaaDoorURdrA
import Derived.Test.YtnlncfjibbdimaaDoorURdX
import Derived.Test.YtnlncfjibbdimaaDoorUReadX
import Derived.Test.YtnlncfjibbdimaaDoorUGetZ
import Derived.Test.YtnlncfjibbdimaaDoorURdr6
import Derived.Test.YtnlncfjibbdimaaDoorURdr8
import Derived.Test.YtnlncfjibbdimaaDoorUDGet
import Derived.Test.YtnlncfjibbdimaaDoorUInLaw
import Derived.Test.YtnlncfjibbdimaaDoorUInForm
import Derived.Test.YtnlncfjibbdimaaDoorULedgersW
import Derived.Test.YtnlncfjibbdimaaDoorURPut
import Derived.Test.YtnlncfjibbdimaaDoorVRMPut
namespace Go.Proofs.YtnlncfjibbdimaaDoor
open Go.RowKit
set_option linter.unusedSimpArgs false
set_option linter.unusedVariables false
theorem msg_set10 (m : Msg) (lv fv v : Value) : (m.cells lv fv).toArray.setIfInBounds 10 v = (m.cells v fv).toArray := rfl
theorem msg_set15 (m : Msg) (lv fv v : Value) : (m.cells lv fv).toArray.setIfInBounds 15 v = (m.cells lv v).toArray := rfl
theorem MsgAt.of_own {w : World} {lo : Nat} {lv : Value} {A : Option Addr} {c : Nat} {m : Msg} (hL : OwnLed w lo w.heap.size lv m.led) (hF : OwnB w lo (.slice A m.frame.length c) m.frame) (hl : m.frame.length ≤ 140737488351232) (h256 : ∀ x ∈ m.frame, x < 256) (hz : ∀ c ∈ m.led, c.Sized) : MsgAt w lo w.heap.size lv (.slice A m.frame.length c) m :=
  ⟨hL.at_, ⟨A, c, rfl, hF.capR.1, hF.capR.2, ownA8 hF, hl, h256, Rd.of_own hF.2.2 (fun g hg => (hF.2.2.lt g hg).2)⟩, hz, Nat.le_refl _⟩
set_option maxRecDepth 100000 in
theorem res75 (a : Array Value) (x : Nat) (cells : List Value) (W : World) (hl : cells.length = 16) (hX : Blk W x 143 cells.toArray) (h2 : a.getD 2 undef = .pointer (some ⟨x, 0, none⟩)) : (results Tryd.f75 a).run Tryd.prog W = .ok (.agg cells.toArray) W := by
  have hld := run_loadVar_mid (P := Tryd.prog) W x 0 143 cells _ hX.range Tryd.underlying143 rfl (by rw [hl]; exact msg_info)
  simp at h2
  simp [go_sem] at hld
  simp [results, Tryd.results75, go_sem, hld, h2]
set_option maxRecDepth 100000 in
set_option maxHeartbeats 3200000 in
theorem copied15_any (m : Msg) (w : World) (lo hi : Nat) (lv fv : Value) (h : MsgAt w lo hi lv fv m) : Calls Tryd.prog 75 #[.agg (m.cells lv fv).toArray] w fun e w' =>
    ∃ lv' fv', e = .returned (.agg (m.cells lv' fv').toArray) ∧ MsgAt w' w.heap.size w'.heap.size lv' fv' m ∧ Below w.heap.size w w' := by
  have H0 := Lib.hid h
  clear h
  go_enter Tryd.func75, Tryd.ntmps75
  go_upto_region 1 with (fail)
  refine wp_letter (fun W => Below w.heap.size w W ∧ Blk W w.heap.size 143 (m.cells lv fv).toArray ∧ Blk W (w.heap.size + 1) 143 zRow ∧ w.heap.size + 2 ≤ W.heap.size)
    ⟨((Below.refl w.heap.size w).alloc (Nat.le_refl _) _).alloc (by simp) _, (Blk.new w 143 _).alloc _, Blk.new1 w _ 143 _, by simp⟩ ?_
  rintro W ⟨hb, hX, hY, hsz⟩
  obtain ⟨x, hx⟩ : ∃ x, x = w.heap.size := ⟨_, rfl⟩
  rw [← hx] at hX hY ⊢
  have hm := H0.out.below hb H0.out.hi_
  have k42 := rcopy_any W lo hi lv m.led hm.led hm.hi_
  have cX := hX.cell
  simp only [Msg.cells] at cX
  have fX := hX.frozen
  have HB := Lib.hid (And.intro hb (And.intro hX (And.intro hY (And.intro (show x + 2 ≤ W.heap.size by omega) (show w.heap.size ≤ x by omega)))))
  have HK := Lib.hid k42
  obtain ⟨nl, hnl⟩ : ∃ nl, nl = m.led.length := ⟨_, rfl⟩
  have HNL := Lib.hid hnl
  clear hb hX hY hsz hx hm k42 hnl
  go_upto_region 2 with (first
    | (go_at_call 42
       refine HK.out.mono ?_
       rintro e w1 ⟨v1, rfl, o1, b1⟩
       obtain ⟨A1, c1, hv1, _⟩ := o1.at_.form
       rw [← HNL.out] at hv1
       subst hv1
       have hx1 := HB.out.2.1.below b1 (by have := HB.out.2.2.2.1; omega)
       have cX1 := hx1.cell
       simp only [Msg.cells] at cX1
       have fX1 := hx1.frozen
       have H1 := Lib.hid (And.intro o1 (And.intro b1 hx1))
       clear o1 b1 hx1)
    | fail)
  clear cX fX cX1 fX1
  have hle := HB.out.2.2.2.1
  have hF1 : Fr W.heap.size (fun k => k = x) w1 (w1.setCell ⟨x, 10, none⟩ (.slice A1 nl c1)) := (Fr.refl W.heap.size (fun k => k = x) w1).setCell (p := ⟨x, 10, none⟩) (.inl rfl) _
  have hF1' : Fr w1.heap.size (fun k => k = x) w1 (w1.setCell ⟨x, 10, none⟩ (.slice A1 nl c1)) := (Fr.refl w1.heap.size (fun k => k = x) w1).setCell (p := ⟨x, 10, none⟩) (.inl rfl) _
  have hx2 := H1.out.2.2.set_ 10 (.slice A1 nl c1)
  rw [msg_set10] at hx2
  refine wp_letter (fun W2 => Below w.heap.size w W2 ∧ Blk W2 x 143 (m.cells (.slice A1 nl c1) fv).toArray ∧ Blk W2 (x + 1) 143 zRow ∧ OwnLed W2 W.heap.size W2.heap.size (.slice A1 nl c1) m.led ∧ W.heap.size ≤ W2.heap.size)
    ⟨(HB.out.1.trans (H1.out.2.1.mono HB.out.1.size)).setCell (p := ⟨x, 10, none⟩) HB.out.2.2.2.2 _, hx2, (HB.out.2.2.1.below H1.out.2.1 (by omega)).far (p := ⟨x, 10, none⟩) (by simp) _, by
      have := H1.out.1.fr hF1' (Nat.le_refl _) (fun k h1 _ he => by omega)
      simpa using this, by have := H1.out.2.1.size; simpa using this⟩ ?_
  clear hF1 hF1' hx2
  rintro W2 ⟨hb2, hX2, hY2, hL2, hs2⟩
  have cX := hX2.cell
  simp only [Msg.cells] at cX
  have hm2 := H0.out.below hb2 H0.out.hi_
  obtain ⟨fA, fc, hfv, hf1, hf2, hf3, hf4, hf5, hfr⟩ := hm2.frm
  have bA : Below W2.heap.size W2 (W2.alloc (.cells #[] 5)) := (Below.refl W2.heap.size W2).alloc (Nat.le_refl _) _
  have hO0 : OwnB (W2.alloc (.cells #[] 5)) W2.heap.size (.slice (some ⟨W2.heap.size, 0, none⟩) 0 0) [] := ⟨⟨_, _, rfl⟩, by simp, ⟨rfl, .inr ⟨W2.heap.size, 0, #[], rfl, Nat.le_refl _, Blk.new W2 5 #[], Nat.le_refl _, Nat.zero_le _, rfl, rfl⟩⟩⟩
  have hr0 := hfr.fr (Fr.of_below bA (fun _ => False)) hm2.hi_ (fun _ _ _ h => h)
  have cA := (hX2.alloc (.cells #[] 5)).cell
  simp only [Msg.cells] at cA
  have HA := Lib.hid (And.intro bA (And.intro hO0 (And.intro hr0 (And.intro (hX2.alloc (.cells #[] 5)) (hY2.alloc (.cells #[] 5))))))
  have H2 := Lib.hid (And.intro hb2 (And.intro hX2 (And.intro hY2 (And.intro hL2 (And.intro hs2 (And.intro hf4 hf5))))))
  have hlx : x < W2.heap.size := hX2.lt
  obtain ⟨nf, hnf⟩ : ∃ nf, nf = m.frame.length := ⟨_, rfl⟩
  have HNF := Lib.hid hnf
  rw [hfv, ← hnf] at cA cX ⊢
  have HFV := Lib.hid hfv
  clear hb2 hX2 hY2 hL2 hs2 hm2 hf1 hf2 hf3 hf4 hf5 hfr bA hO0 hr0 hle hnf hfv
  go_upto_region 3 with (first
    | (at_builtin
       refine law_append8 (.tmp 7) (.tmp 9) W2.heap.size lo hi (.slice (some ⟨W2.heap.size, 0, none⟩) 0 0) [] m.frame fA fc rfl rfl rfl HA.out.2.1 (by rw [← HNF.out]; rfl) HA.out.2.2.1 (by have := H2.out.2.2.2.2.2.1; simp; omega) (by simp) ?_
       intro A5 c5 W5 o5 f5
       have hx5 := HA.out.2.2.2.1.fr f5.2 HA.out.2.2.2.1.lt (HA.out.2.2.2.1.notBS (by decide))
       have hy5 := HA.out.2.2.2.2.fr f5.2 HA.out.2.2.2.2.lt (HA.out.2.2.2.2.notBS (by decide))
       have cX5 := hx5.cell
       simp only [Msg.cells] at cX5
       have fX5 := hx5.frozen
       have H5 := Lib.hid (And.intro o5 (And.intro f5 (And.intro hx5 hy5)))
       clear o5 f5 hx5 hy5)
    | fail)
  have hX6 := H5.out.2.2.1.set_ 15 (.slice A5 m.frame.length c5)
  rw [msg_set15] at hX6
  have o5 : OwnB W5 W2.heap.size (.slice A5 m.frame.length c5) m.frame := by have := H5.out.1; simpa using this
  have b25 : Below W2.heap.size W2 W5 := HA.out.1.trans H5.out.2.1.1
  have hL5 := (H2.out.2.2.2.1.fr (Fr.of_below b25 (fun _ => False)) (Nat.le_refl _) (fun _ _ _ h => h)).wider (Nat.le_refl _) b25.size
  have hM5 : MsgAt W5 W.heap.size W5.heap.size (.slice A1 nl c1) (.slice A5 m.frame.length c5) m :=
    MsgAt.of_own hL5 ⟨o5.1, o5.2.1, ownsRow_base o5.2.2 H2.out.2.2.2.2.1⟩ H2.out.2.2.2.2.2.1 H2.out.2.2.2.2.2.2 H0.out.sz
  have hwx := HB.out.2.2.2.2
  have hxW := HB.out.2.2.2.1
  have hF6 : Fr W5.heap.size (fun k => k = x) W5 (W5.setCell ⟨x, 15, none⟩ (.slice A5 m.frame.length c5)) := (Fr.refl W5.heap.size (fun k => k = x) W5).setCell (p := ⟨x, 15, none⟩) (.inl rfl) _
  refine wp_letter (fun W6 => Below w.heap.size w W6 ∧ Blk W6 x 143 (m.cells (.slice A1 nl c1) (.slice A5 m.frame.length c5)).toArray ∧ Blk W6 (x + 1) 143 zRow ∧ MsgAt W6 W.heap.size W5.heap.size (.slice A1 nl c1) (.slice A5 m.frame.length c5) m)
    ⟨(H2.out.1.trans (b25.mono H2.out.1.size)).setCell (p := ⟨x, 15, none⟩) hwx _, hX6, H5.out.2.2.2.far (p := ⟨x, 15, none⟩) (by simp) _, hM5.fr hF6 (Nat.le_refl _) (fun k h1 _ he => by omega)⟩ ?_
  clear hX6 o5 b25 hL5 hM5 hF6 cX5 fX5 cX cA
  rintro W6 ⟨hb6, hX6, hY6, hM6⟩
  have hr6 := hX6.range
  have hone := msg_one hM6
  have H6 := Lib.hid (And.intro hb6 (And.intro hY6 (And.intro hM6 hone)))
  clear hb6 hX6 hY6 hM6 hone
  go_wp2_with (first
    | ((with_reducible refine law_load 143 (.tmp 1) x 0 (m.cells (.slice A1 nl c1) (.slice A5 m.frame.length c5)) ?_ hr6 Tryd.underlying143 ?_ ?_ ?_); rfl; rfl; exact msg_info)
    | ((with_reducible refine is_store 143 (.tmp 2) (.tmp 12) ?_)
       refine law_store_row 143 (.tmp 2) (.tmp 12) (x + 1) 143 zRow (m.cells (.slice A1 nl c1) (.slice A5 m.frame.length c5)).toArray H6.out.2.1 rfl rfl msg_info rfl H6.out.2.2.2 ?_
       intro W7 hy7 f7 s7
       have H7 := Lib.hid (And.intro hy7 (And.intro f7 s7))
       clear hy7 f7 s7)
    | fail)
  have hsz := H7.out.2.2
  have hm6 := H6.out.2.2.1
  refine bodyPost_ret (res75 _ (x + 1) _ W7 rfl H7.out.1 rfl) rfl ⟨_, _, rfl, (hm6.fr H7.out.2.1 hm6.hi_ (fun q h1 _ he => by omega)).wider (by omega) (by have := hm6.hi_; omega) (Nat.le_refl _), ?_⟩
  exact ((Fr.of_below H6.out.1 (fun _ => False)).trans (H7.out.2.1.mono H6.out.1.size (S' := fun _ => False) (fun q hq he => by omega))).below (fun _ _ h => h)
end Go.Proofs.YtnlncfjibbdimaaDoor
