/-
  CommandLedgers: what both Writes answer, the walk of the document's Write, the law's walk.
  The document's InForm of every message.
-/
import Derived.Test.YtnlncfjibbdimaaDoorURPut
import Derived.Test.YtnlncfjibbdimaaDoorURefWire
import Derived.Test.YtnlncfjibbdimaaDoorUPWire
import Derived.Test.YtnlncfjibbdimaaDoorULaws
import Derived.Test.YtnlncfjibbdimaaDoorUSameL
import Derived.Test.YtnlncfjibbdimaaDoorUInLaw
import Derived.Laws.IdiomStrings
import Derived.Test.YtnlncfjibbdimaaDoorUBase
import Derived.Deep.DeepCutAuto
import Derived.Test.YtnlncfjibbdimaaDoorUPSame
namespace Go.Proofs.YtnlncfjibbdimaaDoor
open Go.RowKit
set_option linter.unusedSimpArgs false
set_option linter.unusedVariables false
/-- What both Writes answer: the number of the error and the bytes. -/
def wans (l : List Cmd) : Nat × List Nat :=
  if 4096 < l.length then (11, []) else if l.all chkB then (0, sealN (ledN l)) else (18, [])
def werr (a1 a12 : Addr) (k : Nat) : Value := if k = 0 then .nilIface else if k = 11 then errv a12 else errv a1
theorem wans_big {l : List Cmd} (h : 4096 < l.length) : wans l = (11, []) := by unfold wans; rw [if_pos h]
theorem wans_bad {l : List Cmd} (h : l.length ≤ 4096) (hb : ∃ c ∈ l, chkB c = false) : wans l = (18, []) := by
  unfold wans
  rw [if_neg (by omega), if_neg]
  intro ha
  obtain ⟨c, hc, hf⟩ := hb
  rw [List.all_eq_true.1 ha c hc] at hf
  cases hf
theorem wans_good {l : List Cmd} (h : l.length ≤ 4096) (ha : ∀ c ∈ l, chkB c = true) : wans l = (0, sealN (ledN l)) := by
  unfold wans
  rw [if_neg (by omega), if_pos (List.all_eq_true.2 ha)]
theorem wans_zero {l : List Cmd} (h : (wans l).1 = 0) : l.length ≤ 4096 ∧ (∀ c ∈ l, chkB c = true) ∧ (wans l).2 = sealN (ledN l) := by
  by_cases hb : 4096 < l.length
  · rw [wans_big hb] at h; cases h
  · by_cases ha : l.all chkB = true
    · have ha' := List.all_eq_true.1 ha
      exact ⟨by omega, ha', by rw [wans_good (by omega) ha']⟩
    · have : wans l = (18, []) := by unfold wans; rw [if_neg hb, if_neg ha]
      rw [this] at h; cases h
theorem WritePost.flat {l : List Cmd} {a1 a12 : Addr} {w w' : World} {e : Ending} (h : WritePost l a1 a12 w e w') :
    ∃ A c, e = .returned (.tuple #[.slice A (wans l).2.length c, werr a1 a12 (wans l).1]) ∧ OwnB w' w.heap.size (.slice A (wans l).2.length c) (wans l).2 ∧ Below w.heap.size w w' := by
  obtain ⟨hb, ⟨h1, rfl⟩ | ⟨h1, h2, rfl⟩ | ⟨h1, h2, v, rfl, ho⟩⟩ := h
  · rw [wans_big h1]; exact ⟨_, _, rfl, OwnB.nil_ _ _, hb⟩
  · rw [wans_bad h1 h2]; exact ⟨_, _, rfl, OwnB.nil_ _ _, hb⟩
  · rw [wans_good h1 h2]
    obtain ⟨A, c, rfl⟩ := ho.1
    exact ⟨A, c, rfl, ho, hb⟩
/-- What the document's Write answers. -/
def RWritePost (l : List Cmd) (w : World) (e : Ending) (w' : World) : Prop :=
  ∃ A c, e = .returned (.tuple #[.slice A (wans l).2.length c, .int .i64 ((wans l).1 : Nat)]) ∧ OwnB w' w.heap.size (.slice A (wans l).2.length c) (wans l).2 ∧ Below w.heap.size w w'
set_option maxRecDepth 100000 in
set_option maxHeartbeats 6400000 in
theorem rwrite_any (w : World) (lo hi : Nat) (v : Value) (l : List Cmd) (h : LedAt w lo hi v l) (hhi : hi ≤ w.heap.size) (hz : ∀ c ∈ l, c.Sized) : Calls Tryd.prog 71 #[v] w (RWritePost l w) := by
  obtain ⟨A, cap, rfl, hcap, hcm, hb⟩ := h.form
  obtain ⟨n, hn⟩ : ∃ n, n = l.length := ⟨_, rfl⟩
  have HL := Lib.hid (And.intro h (And.intro hhi (And.intro hz hn)))
  rw [← hn] at hcap hb ⊢
  simp only [maxLen] at hcm
  have hn63 : n ≤ 9223372036854775807 := by omega
  by_cases hbig : (n : Int) > 4096
  · clear h hhi hz hn
    go_enter Tryd.func71, Tryd.ntmps71
    go_wp2_with (fail)
    go_ret2
    have e := wans_big (l := l) (by have := HL.out.2.2.2; omega)
    unfold RWritePost
    rw [e]
    exact ⟨_, _, rfl, OwnB.nil_ _ _, Below.refl _ _⟩
  · have hn16 : n ≤ 4096 := by omega
    have k133 := rnum_any w n (by have := enc_len6 (n := n) (by omega); omega) (by omega)
    have HK := Lib.hid k133
    clear h hhi hz hn k133
    go_enter Tryd.func71, Tryd.ntmps71
    go_wp2_with (first | (go_at_call 133; refine HK.out.mono ?_; rintro e w1 ⟨v1, rfl, o1, b1⟩; obtain ⟨⟨A1, c1, hv1⟩, _⟩ := id o1; subst hv1; have H1 := Lib.hid (And.intro o1 b1); clear o1 b1) | fail)
    clear HK
    go_loopw [4, 15] (fun out i wr => ∃ (k : Nat) (bs : List Nat) (A' : Option Addr) (c' : Nat), k ≤ n ∧ i = .int .i64 k ∧ out = .slice A' bs.length c' ∧ bs = enc n ++ (l.take k).flatMap pieceN ∧ OwnB wr w.heap.size (.slice A' bs.length c') bs ∧ Below w.heap.size w wr ∧ ∀ c ∈ l.take k, chkB c = true) (fun _ i _ => n - (intOf i).toNat)
    case atStart => exact ⟨0, enc n, A1, c1, Nat.zero_le _, rfl, rfl, by simp, H1.out.1, H1.out.2, by simp⟩
    case round =>
      obtain ⟨k, bs, A', c', hk, rfl, rfl, hbs, hO, hB, hall⟩ := hrel
      obtain ⟨m, hm⟩ : ∃ m, m = bs.length := ⟨_, rfl⟩
      have HW := Lib.hid (And.intro hbs (And.intro hO (And.intro hB (And.intro hall hm))))
      rw [← hm]
      clear hbs hO hB hall hm
      by_cases hlt : (k : Int) < n
      · have hk' : k < l.length := by rw [← HL.out.2.2.2]; omega
        have hlk := List.getElem?_eq_getElem hk'
        have hL := HL.out.1
        rw [← HL.out.2.2.2] at hL
        obtain ⟨b, o, pv, rfl, hlo', hhi', hr0, hparts⟩ := hL.range hlk
        obtain ⟨c, hc⟩ : ∃ c, c = l[k] := ⟨_, rfl⟩
        rw [← hc] at hr0 hparts hlk
        have hrange : wr.rangeAt b (o + k * 18) (c.cells pv) := rangeAt_fr hr0 (Fr.of_below HW.out.2.2.1 (fun _ => False)) (by have := HL.out.2.1; omega) (fun h => h)
        have hone := intsAt_oneW hparts
        have hcl : c ∈ l := List.mem_of_getElem? hlk
        have hbR : Below wr.heap.size wr (wr.alloc (.cells (c.cells pv).toArray 81)) := (Below.refl wr.heap.size wr).alloc (Nat.le_refl _) _
        have hbA := HW.out.2.2.1.trans (hbR.mono HW.out.2.2.1.size)
        have hp1 := hparts.fr (Fr.of_below hbA (fun _ => False)) HL.out.2.1 (fun _ _ _ h => h)
        have hx := Blk.new wr 81 (c.cells pv).toArray
        have k46 := inForm_any c (HL.out.2.2.1 c hcl) (wr.alloc (.cells (c.cells pv).toArray 81)) lo hi pv hp1 (Nat.le_trans HL.out.2.1 hbA.size)
        rw [in_chk] at k46
        have hrx := hx.range
        have hnext : (l.take (k + 1)).flatMap pieceN = (l.take k).flatMap pieceN ++ pieceN c := by
          rw [List.take_add_one, hlk, List.flatMap_append]
          simp
        have HP := Lib.hid hparts
        have HX := Lib.hid hx
        have HC := Lib.hid (And.intro hlk (And.intro hbR (And.intro hone hnext)))
        have HK := Lib.hid k46
        clear hL hlk hr0 hparts hone hcl hp1 hbA hbR hc hx hnext k46
        cases hck : chkB c with
        | false =>
          have HCK := Lib.hid hck
          clear hck
          go_wp2_with (first
            | ((with_reducible refine law_load 81 (.tmp 17) b (o + k * 18) (c.cells pv) ?_ hrange Tryd.underlying81 ?_ ?_ ?_); rfl; rfl; exact cmd_info)
            | ((with_reducible refine law_store_fresh 81 (.tmp 6) (.tmp 18) wr 81 _ (c.cells pv).toArray ?_ ?_ rfl ?_ ?_ HC.out.2.2.1 ?_); rfl; rfl; exact cmd_info; rfl)
            | ((with_reducible refine law_load 81 (.tmp 6) wr.heap.size 0 (c.cells pv) ?_ hrx Tryd.underlying81 ?_ ?_ ?_); rfl; rfl; exact cmd_info)
            | (go_at_call 46
               have k46 := HK.out
               rw [HCK.out] at k46
               refine k46.mono ?_
               rintro e w3 ⟨rfl, b3⟩
               have H3 := Lib.hid (HW.out.2.2.1.trans ((HC.out.2.1.trans (b3.mono HC.out.2.1.size)).mono HW.out.2.2.1.size))
               clear k46 b3)
            | fail)
          go_ret2
          have e := wans_bad (l := l) (by have := HL.out.2.2.2; omega) ⟨c, List.mem_of_getElem? HC.out.1, HCK.out⟩
          unfold RWritePost
          rw [e]
          exact ⟨_, _, rfl, OwnB.nil_ _ _, H3.out⟩
        | true =>
          have HCK := Lib.hid hck
          clear hck
          go_upto_region 9 with (first
            | ((with_reducible refine law_load 81 (.tmp 17) b (o + k * 18) (c.cells pv) ?_ hrange Tryd.underlying81 ?_ ?_ ?_); rfl; rfl; exact cmd_info)
            | ((with_reducible refine law_store_fresh 81 (.tmp 6) (.tmp 18) wr 81 _ (c.cells pv).toArray ?_ ?_ rfl ?_ ?_ HC.out.2.2.1 ?_); rfl; rfl; exact cmd_info; rfl)
            | ((with_reducible refine law_load 81 (.tmp 6) wr.heap.size 0 (c.cells pv) ?_ hrx Tryd.underlying81 ?_ ?_ ?_); rfl; rfl; exact cmd_info)
            | (go_at_call 46
               have k46 := HK.out
               rw [HCK.out] at k46
               refine k46.mono ?_
               rintro e w3 ⟨rfl, b3⟩
               have hb3 := HC.out.2.1.trans (b3.mono HC.out.2.1.size)
               have hrx3 := (HX.out.below b3 HX.out.lt).range
               have H3 := Lib.hid hb3
               clear k46 b3 hb3)
            | fail)
          have hp3 := HP.out.fr (Fr.of_below (HW.out.2.2.1.trans (H3.out.mono HW.out.2.2.1.size)) (fun _ => False)) HL.out.2.1 (fun _ _ _ h => h)
          have k48 := rput_any c (Lens.of (chk_rng HCK.out)) (chk_rng HCK.out).parts.1 w3 lo hi pv hp3 (Nat.le_trans HL.out.2.1 (Nat.le_trans HW.out.2.2.1.size H3.out.size))
          have HK48 := Lib.hid k48
          have hlen : bs.length + (pieceN c).length ≤ 140737488355328 := by
            have q1 := flat_pieceN_len _ HW.out.2.2.2.1
            have q2 := pieceN_len HCK.out
            have q3 := enc_len6 (n := n) (by omega)
            rw [List.length_take] at q1
            rw [HW.out.1, List.length_append]
            have : min k l.length ≤ 4096 := by omega
            omega
          have HLEN := Lib.hid hlen
          clear k48 hp3 hlen
          go_upto_region 10 with (first
            | ((with_reducible refine law_load 81 (.tmp 6) wr.heap.size 0 (c.cells pv) ?_ hrx3 Tryd.underlying81 ?_ ?_ ?_); rfl; rfl; exact cmd_info)
            | (go_at_call 48
               refine HK48.out.mono ?_
               rintro e w4 ⟨v4, rfl, o4, b4⟩
               obtain ⟨A4, c4, rfl, r4⟩ := o4.rd
               have k111 := rbytes_any w4 w3.heap.size w4.heap.size A4 c4 (putN c) r4 (Nat.le_refl _) (by
                 have := pieceN_len HCK.out
                 unfold pieceN at this
                 rw [List.length_append] at this
                 omega)
               have HK111 := Lib.hid k111
               have H4 := Lib.hid (H3.out.trans (b4.mono H3.out.size))
               clear o4 b4 r4 k111)
            | (go_at_call 111
               refine HK111.out.mono ?_
               rintro e w5 ⟨v5, rfl, o5, b5⟩
               have o5' : OwnB w5 w4.heap.size v5 (pieceN c) := o5
               obtain ⟨A5, c5, rfl, r5⟩ := o5'.rd
               have hb5 := H4.out.trans (b5.mono H4.out.size)
               have H5 := Lib.hid (And.intro r5 (And.intro hb5 (HW.out.2.1.below hb5 (Nat.le_refl _))))
               clear o5 o5' b5 r5 hb5)
            | (at_builtin
               refine law_append8 (.tmp 22) (.tmp 25) w.heap.size w4.heap.size w5.heap.size (.slice A' bs.length c') bs (pieceN c) A5 c5 rfl rfl (by rw [HW.out.2.2.2.2]; rfl) H5.out.2.2 rfl H5.out.1 HLEN.out (Nat.le_trans HW.out.2.2.1.size H5.out.2.1.size) ?_
               intro A6 c6 W6 o6 f6
               have H6 := Lib.hid (And.intro o6 (HW.out.2.2.1.trans ((H5.out.2.1.mono HW.out.2.2.1.size).trans f6.1)))
               clear o6 f6)
            | fail)
          go_wp2_with (fail)
          go_roundw
          case rel => exact ⟨k + 1, bs ++ pieceN c, A6, c6, by omega, by go_num, by rw [List.length_append], by rw [HW.out.1, HC.out.2.2.2, List.append_assoc], by rw [List.length_append]; exact H6.out.1, H6.out.2, fun d hd => by
            rw [List.take_add_one, HC.out.1] at hd
            rcases List.mem_append.1 hd with h | h
            · exact HW.out.2.2.2.1 d h
            · simp at h
              rw [h]
              exact HCK.out⟩
          case measure => simp [intOf]; omega
      · have hkn : k = l.length := by have := HL.out.2.2.2; omega
        have hall := HW.out.2.2.2.1
        have hbs := HW.out.1
        rw [hkn, List.take_length] at hall hbs
        rw [HL.out.2.2.2] at hbs
        have hled : bs = ledN l := hbs
        have hl16 : l.length ≤ 4096 := by have := HL.out.2.2.2; omega
        obtain ⟨A7, c7, hv7, r7⟩ := HW.out.2.1.rd
        injection hv7 with e1 _ e2
        subst e1 e2
        have k134 := rseal_any wr wr.heap.size c' A' bs (r7.wider (Nat.zero_le _) (Nat.le_refl _)) (Nat.le_refl _) (by have := ledN_len hall hl16; rw [hled]; omega) (by rw [hled]; exact ledN_byte l)
        have HK134 := Lib.hid k134
        rw [← HW.out.2.2.2.2] at HK134
        have HE := Lib.hid (And.intro hall (And.intro hled hl16))
        clear hkn hall hbs hled hl16 r7 k134
        go_wp2_with (first | (go_at_call 134; refine HK134.out.mono ?_; rintro e w8 ⟨v8, rfl, o8, b8⟩; have H8 := Lib.hid (And.intro o8 b8); clear o8 b8) | fail)
        go_ret2
        have e := wans_good HE.out.2.2 HE.out.1
        have o8 := H8.out.1
        rw [HE.out.2.1] at o8
        obtain ⟨A8, c8, rfl⟩ := o8.1
        unfold RWritePost
        rw [e]
        exact ⟨A8, c8, rfl, ⟨o8.1, o8.2.1, ownsRow_base o8.2.2 HW.out.2.2.1.size⟩, HW.out.2.2.1.trans (H8.out.2.mono HW.out.2.2.1.size)⟩
section
open Go.ChangeShapes Go.WideShapes Go.ChangeAt Go.RowKit Go.Deep
variable {H : Type} {enc : TypeId × Value → H} {w : World} {base : Nat} {spare : Nat → Bool} {held : Bool} {fuel : Nat} {cs : List Value} {x : DataW H × List MemPlace}
theorem open_led_sz (h : DataW.trod enc Tryd.prog w base spare held fuel 46 cs = some x) (hx : Light 46 x.1) : ∃ v l, cs = [v] ∧ LedAt w 0 w.heap.size v l ∧ ∀ c ∈ l, c.Sized := by
  obtain ⟨A, n, c, rfl, h1, h2, h3, h4⟩ := open_rows 18 184 Tryd.underlying46 cellsOf81 bytesOf81 h hx
  obtain ⟨f, hf⟩ := choose_lt (α := List Value × Cmd) (n := n) (p := fun i z => (CmdAt w 0 w.heap.size z.1 z.2 ∧ z.2.Sized) ∧ z.1.length = 18 ∧ ∃ ad, A = some ad ∧ ∀ j, j < 18 → w.cell? (ad.add (i * 18 + j)) = z.1[j]?) (fun i hi => by
    obtain ⟨ad, cs', m, y, e1, e2, e3, e4, e5⟩ := h4 i hi
    obtain ⟨z, hz⟩ := open_cmd_sz e4 e5
    exact ⟨(cs', z), hz, e3, ad, e1, e2⟩)
  have hlen : ((List.range n).map fun i => (f i).2).length = n := by simp
  have hr18 : ∀ r ∈ (List.range n).map (fun i => (f i).1), r.length = 18 := by
    intro r hr
    obtain ⟨i, hi, rfl⟩ := List.mem_map.1 hr
    exact (hf i (by simpa using hi)).2.1
  have hfl := flatten_len _ hr18
  refine ⟨_, (List.range n).map fun i => (f i).2, rfl, ⟨A, c, (List.range n).map fun i => (f i).1, by rw [hlen], by rw [hlen]; exact h1, h2, by rw [hlen]; exact reach47 h3, ?_, ?_, ?_⟩, ?_⟩
  · rw [hlen]
    refine ⟨by rw [hfl]; simp, fun hn => ?_⟩
    obtain ⟨_, h18, ad, rfl, hc⟩ := hf 0 hn
    refine ⟨ad, rfl, Nat.zero_le _, ?_, ?_⟩
    · have hc0 := hc 0 (by omega)
      rw [List.getElem?_eq_getElem (by omega)] at hc0
      have := World.block_lt_of_cell? w _ hc0
      rwa [block_of_add] at this
    · intro j u hu
      have hj : j < n * 18 := by
        have := (List.getElem?_eq_some_iff.1 hu).1
        rw [hfl] at this
        simpa using this
      have hjn : j / 18 < n := by omega
      obtain ⟨_, _, ad', e, hc'⟩ := hf (j / 18) hjn
      injection e with e
      subst e
      have hj' : j = j / 18 * 18 + j % 18 := by omega
      have hg := flatten_get _ hr18 (j / 18) (j % 18) (f (j / 18)).1 (by simp [hjn]) (by omega)
      rw [← hj'] at hg
      have := hc' (j % 18) (by omega)
      rw [← hj'] at this
      rw [this, ← hg, hu]
  · simp
  · intro i r cm hr hcm
    have hi : i < n := by have := (List.getElem?_eq_some_iff.1 hr).1; simpa using this
    simp [hi] at hr hcm
    subst hr; subst hcm
    exact (hf i hi).1.1
  · intro d hd
    obtain ⟨i, hi, rfl⟩ := List.mem_map.1 hd
    exact (hf i (by simpa using hi)).1.2
end
end Go.Proofs.YtnlncfjibbdimaaDoor
namespace Go.Proofs.YtnlncfjibbdimaaDoor
open Go.ChangeShapes Go.WideShapes Go.ChangeAt Go.RowKit Go.Deep
set_option linter.unusedSimpArgs false
set_option linter.unusedVariables false
end Go.Proofs.YtnlncfjibbdimaaDoor

namespace Go.Proofs.YtnlncfjibbdimaaDoor
open Go.RowKit
set_option linter.unusedSimpArgs false
set_option linter.unusedVariables false
/-- The state behind the first questions: the message at x, the one that is built at z, no ballot at y. -/
structure PInS (w : World) (x y z : Nat) (mc zc : Array Value) (W : World) : Prop where
  bel : Below w.heap.size w W
  hx : Blk W x 143 mc
  hy : Blk W y 23 #[.int .i64 0, .int .i64 0]
  hz : Blk W z 143 zc
  low : w.heap.size ≤ x ∧ w.heap.size ≤ y ∧ w.heap.size ≤ z
  ne : x ≠ z ∧ y ≠ z
theorem PInS.below {w W W' : World} {x y z : Nat} {mc zc : Array Value} (h : PInS w x y z mc zc W) (b : Below W.heap.size W W') : PInS w x y z mc zc W' :=
  ⟨h.bel.trans (b.mono h.bel.size), h.hx.below b h.hx.lt, h.hy.below b h.hy.lt, h.hz.below b h.hz.lt, h.low, h.ne⟩
theorem PInS.set {w W : World} {x y z : Nat} {mc zc : Array Value} (h : PInS w x y z mc zc W) (i : Nat) (u : Value) : PInS w x y z mc (zc.setIfInBounds i u) (W.setCell ⟨z, i, none⟩ u) :=
  ⟨h.bel.setCell (p := ⟨z, i, none⟩) h.low.2.2 u, h.hx.far (p := ⟨z, i, none⟩) h.ne.1 u, h.hy.far (p := ⟨z, i, none⟩) h.ne.2 u, h.hz.set_ i u, h.low, h.ne⟩
theorem wans_led {l : List Cmd} (h : goodLed l = true) : (wans l).1 = 0 := by
  obtain ⟨h1, h2⟩ := goodLed_iff.1 h
  rw [wans_good h2 h1]
theorem wans_bad' {l : List Cmd} (h : goodLed l = false) : (wans l).1 ≠ 0 := fun e => by
  obtain ⟨h1, h2, _⟩ := wans_zero e
  rw [goodLed_iff.2 ⟨h2, h1⟩] at h
  cases h
theorem neb23 (a b a' b' : Int) (w : World) : (binOp .neq 23 (.agg #[.int .i64 a, .int .i64 b]) (.agg #[.int .i64 a', .int .i64 b'])).run Tryd.prog w = .ok (.bool (!(decide (a = a') && decide (b = b')))) w := by
  rw [run_neq_struct, show 10000 = 9999 + 1 from rfl, run_equalIn_struct w 9999 23 _ _ fb23 stb23]
  simp only [Program.fieldsOf, Tryd.underlying23]
  simp [Op.eqFields, go_sem, part]
  by_cases h1 : a = a' <;> by_cases h2 : b = b' <;> simp [h1, h2]
end Go.Proofs.YtnlncfjibbdimaaDoor
