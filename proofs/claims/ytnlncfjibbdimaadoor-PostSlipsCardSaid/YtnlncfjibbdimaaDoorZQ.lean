/-
  The document's InForm of every message: it asks what Check asks.
  PostSlips: one byte changed is refused.
  PostSlips: the walk, off the row's reading of its arguments.
-/
import Derived.Test.YtnlncfjibbdimaaDoorZPInA
import Derived.Test.YtnlncfjibbdimaaDoorZPInB
import Derived.Test.YtnlncfjibbdimaaDoorZPInC
import Derived.Test.YtnlncfjibbdimaaDoorZPInD
import Derived.Test.YtnlncfjibbdimaaDoorZPInE
import Derived.Test.YtnlncfjibbdimaaDoorZPInF
import Derived.Test.YtnlncfjibbdimaaDoorZPInG
import Derived.Test.YtnlncfjibbdimaaDoorZPInH
import Derived.Test.YtnlncfjibbdimaaDoorZPInI
import Derived.Test.YtnlncfjibbdimaaDoorZPInJ
import Derived.Test.YtnlncfjibbdimaaDoorZPInK
import Derived.Test.YtnlncfjibbdimaaDoorZPInL
import Derived.Test.YtnlncfjibbdimaaDoorZN
import Derived.Test.YtnlncfjibbdimaaDoorZL
import Derived.Test.YtnlncfjibbdimaaDoorZO
namespace Go.Proofs.YtnlncfjibbdimaaDoor
open Go.RowKit
set_option linter.unusedSimpArgs false
set_option linter.unusedVariables false
theorem pin_any (m : Msg) (w : World) (lo hi : Nat) (lv fv : Value) (h : MsgAt w lo hi lv fv m) : Calls Tryd.prog 79 #[.agg (m.cells lv fv).toArray] w (YesNo (chkM m) w) := by
  obtain ⟨lA, lc, fA, fc, rfl, rfl⟩ := h.form
  obtain ⟨kind, frm, to_, tn, tb, ts, br, bn, ar, an, led, xn, xb, xs, okm, frame⟩ := m
  by_cases k1 : kind = 1
  · exact pin_coreA kind frm to_ tn tb ts br bn ar an led xn xb xs okm frame lA fA led.length lc frame.length fc w lo hi (Lib.hid rfl) (Lib.hid rfl) _ (Lib.hid rfl) (Lib.hid h) (Lib.hid k1) (Lib.hid trivial)
  by_cases k3 : kind = 3
  · exact pin_coreB kind frm to_ tn tb ts br bn ar an led xn xb xs okm frame lA fA led.length lc frame.length fc w lo hi (Lib.hid rfl) (Lib.hid rfl) _ (Lib.hid rfl) (Lib.hid h) (Lib.hid k3) (Lib.hid trivial)
  by_cases k4 : kind = 4
  · exact pin_coreC kind frm to_ tn tb ts br bn ar an led xn xb xs okm frame lA fA led.length lc frame.length fc w lo hi (Lib.hid rfl) (Lib.hid rfl) _ (Lib.hid rfl) (Lib.hid h) (Lib.hid k4) (Lib.hid trivial)
  by_cases k5 : kind = 5
  · exact pin_coreD kind frm to_ tn tb ts br bn ar an led xn xb xs okm frame lA fA led.length lc frame.length fc w lo hi (Lib.hid rfl) (Lib.hid rfl) _ (Lib.hid rfl) (Lib.hid h) (Lib.hid k5) (Lib.hid trivial)
  by_cases k6 : kind = 6
  · exact pin_coreH kind frm to_ tn tb ts br bn ar an led xn xb xs okm frame lA fA led.length lc frame.length fc w lo hi (Lib.hid rfl) (Lib.hid rfl) _ (Lib.hid rfl) (Lib.hid h) (Lib.hid k6) (Lib.hid trivial)
  by_cases k7 : kind = 7
  · exact pin_coreI kind frm to_ tn tb ts br bn ar an led xn xb xs okm frame lA fA led.length lc frame.length fc w lo hi (Lib.hid rfl) (Lib.hid rfl) _ (Lib.hid rfl) (Lib.hid h) (Lib.hid k7) (Lib.hid trivial)
  by_cases k8 : kind = 8
  · exact pin_coreJ kind frm to_ tn tb ts br bn ar an led xn xb xs okm frame lA fA led.length lc frame.length fc w lo hi (Lib.hid rfl) (Lib.hid rfl) _ (Lib.hid rfl) (Lib.hid h) (Lib.hid k8) (Lib.hid trivial)
  by_cases k2 : kind = 2
  · cases hna : noB ar an with
    | true => exact pin_coreE kind frm to_ tn tb ts br bn ar an led xn xb xs okm frame lA fA led.length lc frame.length fc w lo hi (Lib.hid rfl) (Lib.hid rfl) _ (Lib.hid rfl) (Lib.hid h) (Lib.hid k2) (Lib.hid hna)
    | false => exact pin_coreK kind frm to_ tn tb ts br bn ar an led xn xb xs okm frame lA fA led.length lc frame.length fc w lo hi (Lib.hid rfl) (Lib.hid rfl) _ (Lib.hid rfl) (Lib.hid h) (Lib.hid k2) (Lib.hid hna)
  by_cases k9 : kind = 9
  · by_cases ho : okm = true
    · exact pin_coreF kind frm to_ tn tb ts br bn ar an led xn xb xs okm frame lA fA led.length lc frame.length fc w lo hi (Lib.hid rfl) (Lib.hid rfl) _ (Lib.hid rfl) (Lib.hid h) (Lib.hid k9) (Lib.hid ho)
    · exact pin_coreL kind frm to_ tn tb ts br bn ar an led xn xb xs okm frame lA fA led.length lc frame.length fc w lo hi (Lib.hid rfl) (Lib.hid rfl) _ (Lib.hid rfl) (Lib.hid h) (Lib.hid k9) (Lib.hid (by simpa using ho))
  exact pin_coreG kind frm to_ tn tb ts br bn ar an led xn xb xs okm frame lA fA led.length lc frame.length fc w lo hi (Lib.hid rfl) (Lib.hid rfl) _ (Lib.hid rfl) (Lib.hid h) (Lib.hid (by omega)) (Lib.hid trivial)
end Go.Proofs.YtnlncfjibbdimaaDoor

namespace Go.Proofs.YtnlncfjibbdimaaDoor
open Go.RowKit
set_option linter.unusedSimpArgs false
set_option linter.unusedVariables false
theorem whichB (x : Int) {n : Nat} (hn : 0 < n) (h7 : n ≤ 9000000) : ∃ j : Nat, j < n ∧ (wrap64 (x.tmod n + n)).tmod n = j := by
  have hn' : (0 : Int) < n := by omega
  have h1 : x.tmod n < n := Int.tmod_lt_of_pos _ hn'
  have h2 : -(n : Int) < x.tmod n := by
    have := Int.tmod_lt_of_pos (-x) hn'
    rw [Int.neg_tmod] at this
    omega
  have h3 : wrap64 (x.tmod n + n) = x.tmod n + n := by unfold wrap64; omega
  rw [h3, Int.tmod_eq_emod_of_nonneg (by omega)]
  have h4 := Int.emod_nonneg (x.tmod n + n) (b := n) (by omega)
  have h5 := Int.emod_lt_of_pos (x.tmod n + n) hn'
  exact ⟨((x.tmod n + n) % n).toNat, by omega, by omega⟩
theorem MsgAt.frame_byte {w : World} {lo hi : Nat} {lv fv : Value} {m : Msg} (h : MsgAt w lo hi lv fv m) : ∀ x ∈ m.frame, x < 256 := by
  obtain ⟨_, _, _, _, _, _, _, h256, _⟩ := h.frm
  exact h256
/-- What Put wrote, told for the slip: its block, the byte at j, and that Get refuses it once that byte is another. -/
theorem slip_ready {m : Msg} {w w3 : World} {v : Value} (hc : chkM m = true) (hf : ∀ x ∈ m.frame, x < 256) (ho : OwnB w3 w.heap.size v (putM m)) (a2 a8 : Addr) (h2 : w3.cell? ⟨2, 0, none⟩ = some (errv a2)) (h8 : w3.cell? ⟨8, 0, none⟩ = some (errv a8)) (hw : 9 ≤ w.heap.size) :
    ∃ n g cap, v = .slice (some ⟨g, 0, none⟩) n cap ∧ w.heap.size ≤ g ∧ 0 < n ∧ n ≤ 9000000 ∧ n ≤ cap ∧ cap ≤ 9223372036854775807 ∧ (∃ cur, Blk w3 g 5 cur) ∧
      ∀ j, j < n → ∃ x : Nat, w3.cell? ⟨g, j, none⟩ = some (.int .u8 x) ∧ x < 256 ∧ ∀ y : Nat, y < 256 → x ≠ y →
        ∀ w5, Below w3.heap.size (w3.setCell ⟨g, j, none⟩ (.int .u8 y)) w5 →
        Calls Tryd.prog 80 #[.slice (some ⟨g, 0, none⟩) n cap] w5 fun e w' => ∃ v b, e = .returned (.tuple #[v, errv b]) ∧ Below w5.heap.size w5 w' := by
  obtain ⟨n, hn⟩ : ∃ n, n = (putM m).length := ⟨_, rfl⟩
  have hlen : n = (msgN m).length + 4 := by rw [hn]; unfold putM; exact sealN_length _
  have hle := msgN_len hc
  have h256 : ∀ x ∈ putM m, x < 256 := sealN_byte' (msgN_byte hf)
  rcases ho.2.2.2 with ⟨_, h0⟩ | ⟨g, cap, cur, hv, hg, hB, h3, h4, h5, h6⟩
  · omega
  · have hB' : Blk w3 g 5 cur := hB
    rw [← hn] at hv h3 h6
    refine ⟨n, g, cap, hv, hg, by omega, by omega, h3, by simpa only [maxLen] using h4, ⟨cur, hB'⟩, ?_⟩
    intro j hj
    obtain ⟨x, hx⟩ : ∃ x, (putM m)[j]? = some x := ⟨_, List.getElem?_eq_getElem (by omega)⟩
    have hxc : cur[j]? = some (.int .u8 x) := by
      have : (u8s (putM m))[j]? = some (.int .u8 x) := by unfold u8s; rw [List.getElem?_map, hx]; rfl
      rw [← h6, List.getElem?_take] at this
      split at this
      · simpa using this
      · cases this
    refine ⟨x, by rw [hB'.cell j, hxc], h256 x (List.mem_of_getElem? hx), ?_⟩
    intro y hy hne w5 b5
    have hB2 := hB'.set_ j (.int .u8 y)
    have hgl := hB'.lt
    have hsz : (w3.setCell ⟨g, j, none⟩ (.int .u8 y)).heap.size = w3.heap.size := by simp
    have hcell : ∀ k, w5.cell? ⟨g, k, none⟩ = (cur.setIfInBounds j (.int .u8 y))[k]? := fun k => (b5.cell (p := ⟨g, k, none⟩) hgl).trans (hB2.cell k)
    have hs5 := b5.size
    have hlo : ∀ q, q < 9 → w5.cell? ⟨q, 0, none⟩ = w3.cell? ⟨q, 0, none⟩ := fun q hq => by
      have e1 := b5.cell (p := ⟨q, 0, none⟩) (by simp only; omega)
      have fr : Below g w3 (w3.setCell ⟨g, j, none⟩ (.int .u8 y)) := (Below.refl g w3).setCell (p := ⟨g, j, none⟩) (Nat.le_refl _) _
      exact e1.trans (fr.cell (p := ⟨q, 0, none⟩) (by simp only; omega))
    have hl2 : ((putM m).set j y).length = n := by rw [List.length_set, hn]
    have hr : Rd w5 0 w5.heap.size 1 (some ⟨g, 0, none⟩) n (u8s ((putM m).set j y)) := by
      refine ⟨by unfold u8s; rw [List.length_map, hl2, Nat.mul_one], fun _ => ⟨_, rfl, Nat.zero_le _, by simp only; omega, ?_⟩⟩
      intro k u hu
      have hk : k < n := by
        have := (List.getElem?_eq_some_iff.1 hu).1
        unfold u8s at this
        rw [List.length_map, hl2] at this
        exact this
      have : (Addr.add ⟨g, 0, none⟩ k) = ⟨g, k, none⟩ := by rw [Addr.add_mid, Nat.zero_add]
      rw [this, hcell k]
      unfold u8s at hu h6
      rw [List.getElem?_map, List.getElem?_set] at hu
      have hcs : j < cur.size := by rw [h5]; omega
      by_cases hjk : j = k
      · subst hjk
        rw [if_pos rfl, if_pos (by omega)] at hu
        simp only [Option.map_some, Option.some.injEq] at hu
        rw [Array.getElem?_setIfInBounds_self_of_lt hcs, ← hu]
      · rw [if_neg hjk, ← List.getElem?_map, ← h6, List.getElem?_take, if_pos (by omega)] at hu
        rw [Array.getElem?_setIfInBounds_ne hjk]
        simpa using hu
    have := get_slip w5 w5.heap.size cap (some ⟨g, 0, none⟩) ((putM m).set j y) (by rw [hl2]; exact hr) (Nat.le_refl _) (by rw [hl2]; omega) (by rw [hl2]; exact ⟨h3, by simpa only [maxLen] using h4⟩)
      (fun z hz => by
        rcases List.mem_or_eq_of_mem_set hz with h | h
        · exact h256 z h
        · omega)
      a2 a8 ((hlo 2 (by omega)).trans h2) ((hlo 8 (by omega)).trans h8) (slip (msgN_byte hf) hx hne hy)
    rw [hl2] at this
    exact this
set_option maxRecDepth 100000 in
set_option maxHeartbeats 3200000 in
theorem pslips_any (m : Msg) (at_ : Int) (to_ : Nat) (hto : to_ < 256) (w : World) (lo hi : Nat) (lv fv : Value) (h : MsgAt w lo hi lv fv m) (hw9 : 9 ≤ w.heap.size) (a1 a2 a8 a12 : Addr)
    (h1 : w.cell? ⟨1, 0, none⟩ = some (errv a1)) (h2 : w.cell? ⟨2, 0, none⟩ = some (errv a2)) (h8 : w.cell? ⟨8, 0, none⟩ = some (errv a8)) (h12 : w.cell? ⟨12, 0, none⟩ = some (errv a12)) :
    Calls Tryd.prog 20 #[.agg (m.cells lv fv).toArray, .int .i64 at_, .int .u8 to_] w fun e w' => e = .returned (.bool true) ∧ Below w.heap.size w w' := by
  have HG := Lib.hid (show ∀ W, Below w.heap.size w W → W.cell? ⟨1, 0, none⟩ = some (errv a1) ∧ W.cell? ⟨2, 0, none⟩ = some (errv a2) ∧ W.cell? ⟨8, 0, none⟩ = some (errv a8) ∧ W.cell? ⟨12, 0, none⟩ = some (errv a12) from
    fun W b => ⟨(b.cell (World.block_lt_of_cell? w _ h1)).trans h1, (b.cell (World.block_lt_of_cell? w _ h2)).trans h2, (b.cell (World.block_lt_of_cell? w _ h8)).trans h8, (b.cell (World.block_lt_of_cell? w _ h12)).trans h12⟩)
  have H0 := Lib.hid (And.intro h (And.intro hto hw9))
  clear h hto hw9 h1 h2 h8 h12
  go_enter Tryd.func20, Tryd.ntmps20
  go_upto_region 1 with (fail)
  refine wp_letter (fun W => Below w.heap.size w W ∧ Blk W w.heap.size 143 (m.cells lv fv).toArray) ⟨(Below.refl _ _).alloc (Nat.le_refl _) _, Blk.new w 143 _⟩ ?_
  rintro W ⟨hb, hX⟩
  obtain ⟨x, hx⟩ : ∃ x, x = w.heap.size := ⟨_, rfl⟩
  rw [← hx] at hX ⊢
  have k74 := alive15_any W a1 a12 (HG.out W hb).1 (HG.out W hb).2.2.2
  have HK74 := Lib.hid k74
  have HB := Lib.hid (And.intro hb (And.intro hX hx))
  clear k74 hb hX hx
  go_upto_region 3 with (first
    | (go_at_call 74; refine HK74.out.mono ?_; rintro e w1 ⟨rfl, b1⟩; have HB1 := Lib.hid b1; clear b1)
    | fail)
  have b01 := HB.out.1.trans (HB1.out.mono HB.out.1.size)
  have hX1 := HB.out.2.1.below HB1.out HB.out.2.1.lt
  have hrX := hX1.range
  have hM1 := H0.out.1.below b01 H0.out.1.hi_
  have k77 := pput_any m w1 lo hi lv fv hM1 a1 a12 (HG.out w1 b01).1 (HG.out w1 b01).2.2.2
  have hxl := hX1.lt
  cases hc : chkM m with
  | false =>
    have k77' : Calls Tryd.prog 77 #[.agg (m.cells lv fv).toArray] w1 fun e w' => e = .returned (.tuple #[.slice none 0 0, errv a1]) ∧ Below w1.heap.size w1 w' := by
      refine k77.mono ?_
      rintro e w' ⟨hb, ⟨_, rfl⟩ | ⟨hf, _⟩⟩
      · exact ⟨rfl, hb⟩
      · rw [hc] at hf; cases hf
    have HK := Lib.hid k77'
    have HX := Lib.hid (And.intro b01 (And.intro hX1 hM1))
    have HCC := Lib.hid hc
    clear k77 k77' hX1 hM1 b01 hc
    go_upto_region 5 with (first
      | ((with_reducible refine law_load 143 (.tmp 3) x 0 (m.cells lv fv) ?_ hrX Tryd.underlying143 ?_ ?_ ?_); rfl; rfl; exact msg_info)
      | (go_at_call 77; refine HK.out.mono ?_; rintro e w2 ⟨rfl, b2⟩; have HB2 := Lib.hid b2; clear b2)
      | fail)
    have hX2 := HX.out.2.1.below HB2.out hxl
    have hrX2 := hX2.range
    have k79 := pin_any m w2 lo hi lv fv (HX.out.2.2.below HB2.out HX.out.2.2.hi_)
    rw [HCC.out] at k79
    have HK79 := Lib.hid k79
    have HF := Lib.hid (HX.out.1.trans (HB2.out.mono HX.out.1.size))
    clear k79 hX2 hrX
    go_wp2_with (first
      | ((with_reducible refine law_load 143 (.tmp 3) x 0 (m.cells lv fv) ?_ hrX2 Tryd.underlying143 ?_ ?_ ?_); rfl; rfl; exact msg_info)
      | (go_at_call 79; refine HK79.out.mono ?_; rintro e w3 ⟨rfl, b3⟩; have HB3 := Lib.hid b3; clear b3)
      | fail)
    go_ret
    exact ⟨rfl, HF.out.trans (HB3.out.mono HF.out.size)⟩
  | true =>
    have hw1 : 9 ≤ w1.heap.size := Nat.le_trans H0.out.2.2 b01.size
    have k77' : Calls Tryd.prog 77 #[.agg (m.cells lv fv).toArray] w1 fun e w' => ∃ n g cap, e = .returned (.tuple #[.slice (some ⟨g, 0, none⟩) n cap, .nilIface]) ∧ Below w1.heap.size w1 w' ∧ w1.heap.size ≤ g ∧ 0 < n ∧ n ≤ 9000000 ∧ n ≤ cap ∧ cap ≤ 9223372036854775807 ∧ (∃ cur, Blk w' g 5 cur) ∧
      ∀ j, j < n → ∃ x : Nat, w'.cell? ⟨g, j, none⟩ = some (.int .u8 x) ∧ x < 256 ∧ ∀ y : Nat, y < 256 → x ≠ y →
        ∀ w5, Below w'.heap.size (w'.setCell ⟨g, j, none⟩ (.int .u8 y)) w5 →
        Calls Tryd.prog 80 #[.slice (some ⟨g, 0, none⟩) n cap] w5 fun e w' => ∃ v b, e = .returned (.tuple #[v, errv b]) ∧ Below w5.heap.size w5 w' := by
      refine k77.mono ?_
      rintro e w' ⟨hb, ⟨hf, _⟩ | ⟨_, v, rfl, ho⟩⟩
      · rw [hc] at hf; cases hf
      · have b02 := b01.trans (hb.mono b01.size)
        obtain ⟨n, g, cap, rfl, q⟩ := slip_ready hc hM1.frame_byte ho a2 a8 (HG.out w' b02).2.1 (HG.out w' b02).2.2.1 hw1
        exact ⟨n, g, cap, rfl, hb, q⟩
    have HK := Lib.hid k77'
    have HX := Lib.hid b01
    clear k77 k77' hX1 hM1 b01 hc hw1
    go_upto_region 4 with (first
      | ((with_reducible refine law_load 143 (.tmp 3) x 0 (m.cells lv fv) ?_ hrX Tryd.underlying143 ?_ ?_ ?_); rfl; rfl; exact msg_info)
      | (go_at_call 77; refine HK.out.mono ?_; rintro e w2 ⟨n, g, cap, rfl, b2, hg, hn0, hn9, hnc, hc9, hcur, hs⟩; have HB2 := Lib.hid b2; clear b2)
      | fail)
    obtain ⟨j, hj, hwj⟩ := whichB at_ hn0 hn9
    obtain ⟨xb, hxc, hx256, hslip⟩ := hs j hj
    obtain ⟨cur, hcur⟩ := hcur
    have hfz := hcur.frozen
    have hgl := hcur.lt
    have hj1 : (j : Int) < n := by omega
    have hnn : ¬ (n : Int) = 0 := by omega
    have HF := Lib.hid (HX.out.trans (HB2.out.mono HX.out.size))
    have hgw : w.heap.size ≤ g := Nat.le_trans HX.out.size hg
    clear hs hrX hcur
    by_cases he : xb = to_
    · subst he
      clear hslip
      go_wp2_with (fail)
      go_ret
      exact ⟨rfl, HF.out⟩
    · have hne : ¬ ((xb : Int) = (to_ : Int)) := by omega
      have HK80 := Lib.hid (hslip to_ H0.out.2.1 he)
      clear hslip
      have hfin : ∀ w6, Below (w2.setCell ⟨g, j, none⟩ (.int .u8 (to_ : Int))).heap.size (w2.setCell ⟨g, j, none⟩ (.int .u8 (to_ : Int))) w6 → Below w.heap.size w w6 := fun w6 b6 =>
        (HF.out.setCell (p := ⟨g, j, none⟩) hgw _).trans (b6.mono (by have := HF.out.size; simpa using this))
      have HQ := Lib.hid hfin
      clear hfin
      go_wp2_with (first
        | (go_at_call 80; refine (HK80.out _ (Below.refl _ _)).mono ?_; rintro e w6 ⟨v6, b6, rfl, bb6⟩; have HB6 := Lib.hid bb6; clear bb6)
        | fail)
      go_ret
      exact ⟨rfl, HQ.out _ HB6.out⟩
end Go.Proofs.YtnlncfjibbdimaaDoor

namespace Go.Proofs.YtnlncfjibbdimaaDoor
open Go.ChangeShapes Go.WideShapes Go.ChangeAt Go.RowKit Go.Deep
set_option linter.unusedSimpArgs false
set_option linter.unusedVariables false
section
variable {H : Type} {enc : TypeId × Value → H} {w : World} {base : Nat} {spare : Nat → Bool} {held : Bool} {fuel : Nat} {cs : List Value} {x : DataW H × List MemPlace}
theorem cellsOf143 : Tryd.prog.cellsOf 143 = 16 := by kernel_rfl
theorem cellsOf4' : Tryd.prog.cellsOf 4 = 1 := by kernel_rfl
theorem cellsOf46' : Tryd.prog.cellsOf 46 = 1 := by kernel_rfl
theorem cellsOf84' : Tryd.prog.cellsOf 84 = 1 := by kernel_rfl
theorem list16 {α : Type} {l : List α} (h : l.length = 16) : ∃ a b c d e f g h i j k m n o p q, l = [a, b, c, d, e, f, g, h, i, j, k, m, n, o, p, q] := by
  match l, h with
  | [a, b, c, d, e, f, g, h, i, j, k, m, n, o, p, q], _ => exact ⟨a, b, c, d, e, f, g, h, i, j, k, m, n, o, p, q, rfl⟩
theorem open_msg (h : DataW.trod enc Tryd.prog w base spare held fuel 143 cs = some x) (hx : Light 143 x.1) : ∃ m lv fv, cs = m.cells lv fv ∧ MsgAt w 0 w.heap.size lv fv m := by
  have hlen := trod_len Tryd.underlying143 h
  obtain ⟨_, _, h0⟩ := trod_field Tryd.underlying143 h 0 _ rfl
  obtain ⟨_, _, h1⟩ := trod_field Tryd.underlying143 h 1 _ rfl
  obtain ⟨_, _, h2⟩ := trod_field Tryd.underlying143 h 2 _ rfl
  obtain ⟨_, _, h3⟩ := trod_field Tryd.underlying143 h 3 _ rfl
  obtain ⟨_, _, h4⟩ := trod_field Tryd.underlying143 h 4 _ rfl
  obtain ⟨_, _, h5⟩ := trod_field Tryd.underlying143 h 5 _ rfl
  obtain ⟨_, _, h6, l6⟩ := light_field Tryd.underlying143 h hx 6 _ rfl
  obtain ⟨_, _, h7⟩ := trod_field Tryd.underlying143 h 7 _ rfl
  obtain ⟨_, _, h8⟩ := trod_field Tryd.underlying143 h 8 _ rfl
  obtain ⟨_, _, h9, l9⟩ := light_field Tryd.underlying143 h hx 9 _ rfl
  rw [cellsOf143] at hlen
  obtain ⟨kind, e0, _⟩ := trod_i64 h0
  obtain ⟨frm, e1, _⟩ := trod_i64 h1
  obtain ⟨to_, e2, _⟩ := trod_i64 h2
  obtain ⟨tn, tb, ts, e3, _⟩ := trod_id h3
  obtain ⟨br, bn, e4, _⟩ := trod_bal h4
  obtain ⟨ar, an, e5, _⟩ := trod_bal h5
  obtain ⟨lv, led, e6, hL, hz⟩ := open_led_sz h6 l6
  obtain ⟨xn, xb, xs, e7, _⟩ := trod_id h7
  obtain ⟨ok, e8, _⟩ := DataW.trod_bool Tryd.underlying4 h8
  obtain ⟨fA, fc, frame, e9, hR, hl, hc, hA, h256⟩ := open_bytes h9 l9
  clear h h0 h1 h2 h3 h4 h5 h6 h7 h8 h9 l6 l9 hx
  obtain ⟨c0, c1, c2, c3, c4, c5, c6, c7, c8, c9, c10, c11, c12, c13, c14, c15, rfl⟩ := list16 hlen
  simp [cellsOf3, cellsOf74, cellsOf23, cellsOf46', cellsOf84', cellsOf4'] at e0 e1 e2 e3 e4 e5 e6 e7 e8 e9
  refine ⟨⟨kind, frm, to_, tn, tb, ts, br, bn, ar, an, led, xn, xb, xs, ok, frame⟩, lv, .slice fA frame.length fc, ?_, ⟨hL, ⟨fA, fc, rfl, hc.1, hc.2, hA, hl, h256, hR⟩, hz, Nat.le_refl _⟩⟩
  simp only [Msg.cells, e0, e1, e2, e3.1, e3.2.1, e3.2.2, e4.1, e4.2, e5.1, e5.2, e6, e7.1, e7.2.1, e7.2.2, e8, e9]
end
def sentsPostSlips : List (String × Nat × List UInt8) := [("bollard/api.ErrNumber", 0, [98, 111, 108, 108, 97, 114, 100, 58, 32, 110, 117, 109, 98, 101, 114]), ("bollard/api.ErrBytes", 2, [98, 111, 108, 108, 97, 114, 100, 58, 32, 98, 121, 116, 101, 115]), ("bollard/api.ErrDigest", 8, [98, 111, 108, 108, 97, 114, 100, 58, 32, 100, 105, 103, 101, 115, 116]), ("bollard/api.ErrLarge", 12, [98, 111, 108, 108, 97, 114, 100, 58, 32, 108, 97, 114, 103, 101]), ("bollard/api.ErrState", 1, [98, 111, 108, 108, 97, 114, 100, 58, 32, 115, 116, 97, 116, 101])]
theorem sentsPostSlips_ok : ∀ x ∈ sentsPostSlips, SentOk x := by
  intro x hx
  simp only [sentsPostSlips, List.mem_cons, List.not_mem_nil, or_false] at hx
  rcases hx with rfl | rfl | rfl | rfl | rfl
  · exact ⟨by kernel_rfl, by kernel_rfl⟩
  · exact ⟨by kernel_rfl, by kernel_rfl⟩
  · exact ⟨by kernel_rfl, by kernel_rfl⟩
  · exact ⟨by kernel_rfl, by kernel_rfl⟩
  · exact ⟨by kernel_rfl, by kernel_rfl⟩
set_option maxRecDepth 100000 in
theorem postSlips_walk : LawWalk 20 Tryd.f20 (sentsPostSlips.map (·.2.1)) := by
  intro H enc W base args ds p A hA hval hsz hlt hE
  rw [Tryd.params20] at hA hval hsz
  obtain ⟨v0, vs0, d0, ds0, p0, q0, hargs, rfl, rfl, h0, r0⟩ := trodAll_cons hA
  obtain ⟨v1, vs1, d1, ds1, p1, q1, hargs1, rfl, rfl, h1, r1⟩ := trodAll_cons r0
  obtain ⟨v2, vs2, d2, ds2, p2, q2, hargs2, rfl, rfl, h2, r2⟩ := trodAll_cons r1
  obtain ⟨rfl, rfl, rfl⟩ := trodAll_nil r2
  obtain rfl : args = #[v0, v1, v2] := by cases args; simp_all
  have hl0 : Light 143 d0 := light_of_each (j := 0) hsz rfl rfl
  obtain ⟨cs0, rfl, _⟩ := okWide_struct Tryd.underlying143 (hval 0 143 v0 rfl rfl)
  have c1 := arg_int' Tryd.underlying3 (hval 1 3 v1 rfl rfl)
  have c2 := arg_int' Tryd.underlying5 (hval 2 5 v2 rfl rfl)
  obtain ⟨f0, h0⟩ := h0
  obtain ⟨f1, h1⟩ := h1
  obtain ⟨f2, h2⟩ := h2
  rw [c1] at h1
  rw [c2] at h2
  obtain ⟨m, lv, fv, hcm, hM⟩ := open_msg h0 hl0
  obtain ⟨at_, e1, _⟩ := trod_i64 h1
  obtain ⟨to_, e2, hto⟩ := trod_u8 h2
  have e0 : cs0 = (m.cells lv fv).toArray := by
    have e : (Value.agg cs0).cells.toList = cs0.toList := rfl
    rw [e] at hcm
    rw [← Array.toArray_toList (xs := cs0), hcm]
  injection e1 with e1 _
  injection e2 with e2 _
  subst e0 e1 e2
  have h8 := hE.cell 8 (by decide)
  have h12 := hE.cell 12 (by decide)
  exact pslips_any m at_ to_ hto W 0 W.heap.size lv fv hM (by have := World.block_lt_of_cell? W _ h12; simp only at this; omega) (A 1) (A 2) (A 8) (A 12) (hE.cell 1 (by decide)) (hE.cell 2 (by decide)) h8 h12
end Go.Proofs.YtnlncfjibbdimaaDoor
