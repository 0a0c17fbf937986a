/-
  Writer.Bytes of bytes that lie below the writer's own memory.
  A slice literal of two commands; a command's argument opened; CommandLengths: the walk, and off the row's reading of its arguments.
  post.Put of every message.
  Layer 15's alive: a message that asks for a promise is written, one without a ballot isn't.
  Layer 15's Get where the bytes' sum is wrong: it refuses.
  Four regions of layer 15's Get, each by itself.
  Layer 15's Get: what the reader's Num and Bytes answer, off the bytes that are left.
-/
import Derived.Test.YtnlncfjibbdimaaDoorURRead
import Derived.Test.YtnlncfjibbdimaaDoorULaws
import Derived.Great.BuildSlice
import Derived.Test.YtnlncfjibbdimaaDoorUReadX
import Derived.Test.YtnlncfjibbdimaaDoorUInLaw
import Derived.Test.YtnlncfjibbdimaaDoorUSameC
import Derived.Test.YtnlncfjibbdimaaDoorUSameL
import Derived.Laws.IdiomStrings
import Derived.Deep.RegionHeld3
import Derived.Deep.MidRow
import Derived.Test.YtnlncfjibbdimaaDoorUBase
import Derived.Test.YtnlncfjibbdimaaDoorUCheck
import Derived.Test.YtnlncfjibbdimaaDoorUPCheck
namespace Go.Proofs.YtnlncfjibbdimaaDoor
open Go.RowKit
set_option linter.unusedSimpArgs false
set_option linter.unusedVariables false
set_option maxRecDepth 100000 in
set_option maxHeartbeats 1600000 in
theorem wbytes_rd (w : World) (lo hi g c : Nat) (bs xs : List Nat) (A : Option Addr) (h : WAt w lo g bs) (hr : Rd w 0 hi 1 A xs.length (u8s xs)) (hhi : hi ≤ lo)
    (hl : bs.length + (enc xs.length).length + xs.length ≤ 1099511627776) : Calls Tryd.prog 131 #[.pointer (some ⟨g, 0, none⟩), .slice A xs.length c] w fun e w' => e = .returned (.tuple #[]) ∧ WAt w' lo g (bs ++ enc xs.length ++ xs) ∧ Below lo w w' := by
  obtain ⟨i0, hi0, hz0, hz1, hz2⟩ := info_parts8 u8_info
  have hnum := num_any8 w lo g xs.length bs h (by omega) (by omega)
  obtain ⟨n, hn⟩ : ∃ n, n = xs.length := ⟨_, rfl⟩
  have HLL := Lib.hid (And.intro hl (And.intro hr hn))
  have HHI := Lib.hid hhi
  have HNUM := Lib.hid hnum
  rw [← hn] at HNUM ⊢
  clear hl h hr hnum hn hhi
  go_enter Tryd.func131, Tryd.ntmps131
  go_wp2_with (first
               | (at_builtin
                  refine wpList_append_any _ rfl (.tmp 12) (.tmp 13) 84 rfl lo 5 i0 _ 1 1 Tryd.underlying84 hi0 hz0 hz1 hz2 rfl (by decide) (.slice A1 k c1) k (u8s (bs ++ enc n)) rfl HO5.out
                    0 hi A n c (u8s xs) rfl HX.out (u8s_oneCell xs) (by have := HKN.out; simp only [maxLen]; omega) (by have := HKN.out; omega) (by have := HO.out; have := HB.out.lt; omega) ?_
                  intro v2 w2 hown2 hg2 hat2
                  have hO2 : OwnRow w2 lo w2.heap.size 5 1 v2 (k + n) (u8s (bs ++ enc n) ++ u8s xs) := ⟨hown2, fun g hg => (hown2.lt g hg).2⟩
                  have hB2 : Blk w2 g 227 #[.slice A1 k c1, .bool false] := HB.out.grown hg2 (own_ne_blk HO5.out HB.out (by decide))
                  have hb2 : Below lo w1 w2 := (Below.refl lo w1).grown hg2 (by have := HO.out; have := HB.out.lt; omega) (fun k hk => (HO5.out.lt k hk).1)
                  obtain ⟨A2, c2, hv2, _⟩ := hO2.form
                  subst hv2
                  have cB2 := hB2.cell
                  have fB2 := hB2.frozen
                  have hlen : (bs ++ enc n ++ xs).length = k + n := by rw [List.length_append, ← HK.out, ← HLL.out.2.2]
                  have hfin : WAt (w2.setCell ⟨g, 0, none⟩ (.slice A2 (k + n) c2)) lo g (bs ++ enc n ++ xs) := ⟨HO.out, by rw [hlen]; exact HKN.out, A2, c2, by have h := hB2.set_ 0 (.slice A2 (k + n) c2); rw [hlen]; simpa using h, by
                    have h := ownsRow_far (i := 0) (u := .slice A2 (k + n) c2) hown2 hB2 (by decide)
                    rw [hlen]
                    simpa [u8s] using h⟩
                  have hbf : Below lo w1 (w2.setCell ⟨g, 0, none⟩ (.slice A2 (k + n) c2)) := hb2.setCell (p := ⟨g, 0, none⟩) HO.out _
                  have HF := Lib.hid (And.intro hfin (HN.out.trans hbf))
                  clear hfin hbf hO2 hB2 hb2 hown2 hg2 hat2 hlen)
               | (go_at_call 99
                  refine HNUM.out.mono ?_
                  rintro e w1 ⟨rfl, h1, b1, f1⟩
                  have HN := Lib.hid b1
                  have hx' := HLL.out.2.1.fr (Fr.of_below b1 (fun _ => False)) HHI.out (fun _ _ _ h => h)
                  rw [← HLL.out.2.2] at hx'
                  have HX := Lib.hid hx'
                  obtain ⟨A1, c1, hB, hown, hc1, hc2, hA⟩ := h1.open_
                  have hlo := h1.1
                  obtain ⟨k, hk⟩ : ∃ k, k = (bs ++ enc n).length := ⟨_, rfl⟩
                  have HKN := Lib.hid (show k + n ≤ 1099511627776 by have h1 := HLL.out.1; rw [← HLL.out.2.2] at h1; rw [hk, List.length_append]; omega)
                  rw [← hk] at hB hown hc1 hA
                  have hg := hB.lt
                  have cB := hB.cell
                  have HO := Lib.hid hlo
                  have HB := Lib.hid hB
                  have HO5 := Lib.hid hown
                  have HK := Lib.hid hk
                  clear hB hown hc1 hc2 hA b1 f1 h1 hlo hk hx'))
  go_end0
  exact ⟨rfl, HF.out.1, HF.out.2⟩
/-- Bytes in memory. -/
def FrAt (w : World) (lo hi : Nat) (fv : Value) (bs : List Nat) : Prop := ∃ A c, fv = .slice A bs.length c ∧ bs.length ≤ c ∧ c ≤ 9223372036854775807 ∧ (A = none → c = 0) ∧ bs.length ≤ 140737488351232 ∧ (∀ x ∈ bs, x < 256) ∧ Rd w lo hi 1 A bs.length (u8s bs)
/-- A message in memory: its ledger and its frame. -/
structure MsgAt (w : World) (lo hi : Nat) (lv fv : Value) (m : Msg) : Prop where
  led : LedAt w lo hi lv m.led
  frm : FrAt w lo hi fv m.frame
  sz : ∀ c ∈ m.led, c.Sized
  hi_ : hi ≤ w.heap.size
theorem FrAt.fr {w w' : World} {lo hi B : Nat} {fv : Value} {bs : List Nat} {S : Nat → Prop} (h : FrAt w lo hi fv bs) (f : Fr B S w w') (hB : hi ≤ B) (hS : ∀ k, lo ≤ k → k < hi → ¬ S k) : FrAt w' lo hi fv bs := by
  obtain ⟨A, c, h1, h2, h3, h4, h5, h6, h7⟩ := h
  exact ⟨A, c, h1, h2, h3, h4, h5, h6, h7.fr f hB hS⟩
theorem FrAt.wider {w : World} {lo hi lo' hi' : Nat} {fv : Value} {bs : List Nat} (h : FrAt w lo hi fv bs) (hl : lo' ≤ lo) (hh : hi ≤ hi') : FrAt w lo' hi' fv bs := by
  obtain ⟨A, c, h1, h2, h3, h4, h5, h6, h7⟩ := h
  exact ⟨A, c, h1, h2, h3, h4, h5, h6, h7.wider hl hh⟩
theorem MsgAt.fr {w w' : World} {lo hi B : Nat} {lv fv : Value} {m : Msg} {S : Nat → Prop} (h : MsgAt w lo hi lv fv m) (f : Fr B S w w') (hB : hi ≤ B) (hS : ∀ k, lo ≤ k → k < hi → ¬ S k) : MsgAt w' lo hi lv fv m :=
  ⟨h.led.fr f hB hS, h.frm.fr f hB hS, h.sz, Nat.le_trans h.hi_ f.size⟩
theorem MsgAt.below {w w' : World} {lo hi B : Nat} {lv fv : Value} {m : Msg} (h : MsgAt w lo hi lv fv m) (f : Below B w w') (hB : hi ≤ B) : MsgAt w' lo hi lv fv m :=
  h.fr (Fr.of_below f (fun _ => False)) hB (fun _ _ _ h => h)
theorem MsgAt.wider {w : World} {lo hi lo' hi' : Nat} {lv fv : Value} {m : Msg} (h : MsgAt w lo hi lv fv m) (hl : lo' ≤ lo) (hh : hi ≤ hi') (hw : hi' ≤ w.heap.size) : MsgAt w lo' hi' lv fv m :=
  ⟨h.led.wider hl hh, h.frm.wider hl hh, h.sz, hw⟩
theorem MsgAt.form {w : World} {lo hi : Nat} {lv fv : Value} {m : Msg} (h : MsgAt w lo hi lv fv m) : ∃ lA lc fA fc, lv = .slice lA m.led.length lc ∧ fv = .slice fA m.frame.length fc := by
  obtain ⟨lA, lc, h1, _⟩ := h.led.form
  obtain ⟨fA, fc, h2, _⟩ := h.frm
  exact ⟨lA, lc, fA, fc, h1, h2⟩
end Go.Proofs.YtnlncfjibbdimaaDoor

namespace Go.Proofs.YtnlncfjibbdimaaDoor
open Go.RowKit
set_option linter.unusedSimpArgs false
set_option linter.unusedVariables false
end Go.Proofs.YtnlncfjibbdimaaDoor
namespace Go.Proofs.YtnlncfjibbdimaaDoor
open Go.RowKit
set_option linter.unusedSimpArgs false
set_option linter.unusedVariables false
/-- What holds through the law: the two commands' own blocks. -/
def LSt (w : World) (a b : Cmd) (pa pb : Value) (W : World) : Prop := Below w.heap.size w W ∧ Blk W w.heap.size 81 (a.cells pa).toArray ∧ Blk W (w.heap.size + 1) 81 (b.cells pb).toArray
theorem LSt.below {w W W' : World} {a b : Cmd} {pa pb : Value} (h : LSt w a b pa pb W) (f : Below W.heap.size W W') : LSt w a b pa pb W' :=
  ⟨h.1.trans (f.mono h.1.size), h.2.1.below f h.2.1.lt, h.2.2.below f h.2.2.lt⟩
theorem WritePost.good {l : List Cmd} {a1 a12 : Addr} {w w' : World} {e : Ending} (h : WritePost l a1 a12 w e w') (hl : l.length ≤ 4096) (hall : ∀ c ∈ l, chkB c = true) :
    ∃ A c, e = .returned (.tuple #[.slice A (sealN (ledN l)).length c, .nilIface]) ∧ OwnB w' w.heap.size (.slice A (sealN (ledN l)).length c) (sealN (ledN l)) ∧ Below w.heap.size w w' := by
  obtain ⟨hb, ⟨h1, _⟩ | ⟨_, ⟨c, hc, hf⟩, _⟩ | ⟨_, _, v, rfl, ho⟩⟩ := h
  · omega
  · rw [hall c hc] at hf
    cases hf
  · obtain ⟨A, c, rfl⟩ := ho.1
    exact ⟨A, c, rfl, ho, hb⟩
theorem ReadPost.good {l : List Cmd} {a2 a8 : Addr} {w w' : World} {e : Ending} (h : ReadPost (sealN (ledN l)) a2 a8 w e w') (hl : l.length ≤ 4096) (hall : ∀ c ∈ l, chkB c = true) :
    ∃ v, e = .returned (.tuple #[v, .nilIface]) ∧ OwnLed w' w.heap.size w'.heap.size v l ∧ Below w.heap.size w w' := by
  obtain ⟨hb, ⟨h1, _⟩ | ⟨_, h2, _⟩ | ⟨xs, hx, h3⟩⟩ := h
  · rw [sealN_length] at h1
    omega
  · exfalso
    apply h2
    have e : (sealN (ledN l)).take ((sealN (ledN l)).length - 4) = ledN l := by
      rw [sealN_length, Nat.add_sub_cancel, sealN, List.take_left]
    rw [e]
  · have hx' := sealN_inj hx
    subst hx'
    rcases h3 with ⟨hn, _⟩ | ⟨m, v, hm, rfl, ho⟩
    · rw [rdLed_enc hall hl] at hn
      cases hn
    · rw [rdLed_enc hall hl] at hm
      injection hm with hm
      subst hm
      exact ⟨v, rfl, ho, hb⟩
end Go.Proofs.YtnlncfjibbdimaaDoor
namespace Go.Proofs.YtnlncfjibbdimaaDoor
open Go.ChangeShapes Go.WideShapes Go.ChangeAt Go.RowKit Go.Deep
set_option linter.unusedSimpArgs false
set_option linter.unusedVariables false
section
variable {H : Type} {enc : TypeId × Value → H} {w : World} {base : Nat} {spare : Nat → Bool} {held : Bool} {fuel : Nat} {cs : List Value} {x : DataW H × List MemPlace}
theorem trod_piece_sz (h : DataW.trod enc Tryd.prog w base spare held fuel 79 cs = some x) : ∃ a b c z s, cs = [.int .i64 a, .int .i64 b, .int .i64 c, .int .i64 z, .string s] ∧ s.size ≤ maxLen := by
  have hlen := trod_len Tryd.underlying79 h
  obtain ⟨_, _, h0⟩ := trod_field Tryd.underlying79 h 0 _ rfl
  obtain ⟨_, _, h1⟩ := trod_field Tryd.underlying79 h 1 _ rfl
  obtain ⟨_, _, h2⟩ := trod_field Tryd.underlying79 h 2 _ rfl
  rw [cellsOf79] at hlen
  obtain ⟨a, b, c, e0, _⟩ := trod_id h0
  obtain ⟨z, e1, _⟩ := trod_i64 h1
  obtain ⟨s, e2, zs⟩ := trod_str h2
  clear h h0 h1 h2
  obtain ⟨c0, c1, c2, c3, c4, rfl⟩ := list5 hlen
  simp [cellsOf3, cellsOf74, cells9] at e0 e1 e2
  exact ⟨a, b, c, z, s, by rw [e0.1, e0.2.1, e0.2.2, e1, e2], zs⟩
theorem open_cmd_sz (h : DataW.trod enc Tryd.prog w base spare held fuel 81 cs = some x) (hx : Light 81 x.1) : ∃ c, CmdAt w 0 w.heap.size cs c ∧ c.Sized := by
  have hlen := trod_len Tryd.underlying81 h
  obtain ⟨_, _, h0⟩ := trod_field Tryd.underlying81 h 0 _ rfl
  obtain ⟨_, _, h1⟩ := trod_field Tryd.underlying81 h 1 _ rfl
  obtain ⟨_, _, h2⟩ := trod_field Tryd.underlying81 h 2 _ rfl
  obtain ⟨_, _, h3⟩ := trod_field Tryd.underlying81 h 3 _ rfl
  obtain ⟨_, _, h4⟩ := trod_field Tryd.underlying81 h 4 _ rfl
  obtain ⟨_, _, h5⟩ := trod_field Tryd.underlying81 h 5 _ rfl
  obtain ⟨_, _, h6⟩ := trod_field Tryd.underlying81 h 6 _ rfl
  obtain ⟨_, _, h7, l7⟩ := light_field Tryd.underlying81 h hx 7 _ rfl
  obtain ⟨_, _, h8⟩ := trod_field Tryd.underlying81 h 8 _ rfl
  obtain ⟨_, _, h9⟩ := trod_field Tryd.underlying81 h 9 _ rfl
  rw [cellsOf81] at hlen
  obtain ⟨kind, e0, _⟩ := trod_i64 h0
  obtain ⟨i1, i2, i3, e1, _⟩ := trod_id h1
  obtain ⟨bu, e2, zb⟩ := trod_str h2
  obtain ⟨ke, e3, zk⟩ := trod_str h3
  obtain ⟨u1, u2, u3, e4, _⟩ := trod_id h4
  obtain ⟨p1, p2, p3, pz, pe, e5, ze⟩ := trod_piece_sz h5
  obtain ⟨part, e6, _⟩ := trod_i64 h6
  obtain ⟨pv, parts, e7, hi, _⟩ := open_intsAt h7 l7
  obtain ⟨time, e8, _⟩ := trod_i64 h8
  obtain ⟨days, e9, _⟩ := trod_i64 h9
  clear h h0 h1 h2 h3 h4 h5 h6 h7 h8 h9 l7 hx
  obtain ⟨c0, c1, c2, c3, c4, c5, c6, c7, c8, c9, c10, c11, c12, c13, c14, c15, c16, c17, rfl⟩ := list18 hlen
  simp [cellsOf3, cellsOf74, cells9, cellsOf79, cellsOf40] at e0 e1 e2 e3 e4 e5 e6 e7 e8 e9
  refine ⟨⟨kind, i1, i2, i3, bu, ke, u1, u2, u3, p1, p2, p3, pz, pe, part, parts, time, days⟩, ⟨pv, ?_, hi⟩, zb, zk, ze⟩
  simp only [Cmd.cells, e0, e1.1, e1.2.1, e1.2.2, e2, e3, e4.1, e4.2.1, e4.2.2, e5.1, e5.2.1, e5.2.2.1, e5.2.2.2.1, e5.2.2.2.2, e6, e7, e8, e9]
end
end Go.Proofs.YtnlncfjibbdimaaDoor
namespace Go.Proofs.YtnlncfjibbdimaaDoor
open Go.ChangeShapes Go.WideShapes Go.ChangeAt Go.RowKit Go.Deep
set_option linter.unusedSimpArgs false
set_option linter.unusedVariables false
end Go.Proofs.YtnlncfjibbdimaaDoor

namespace Go.Proofs.YtnlncfjibbdimaaDoor
open Go.RowKit
set_option linter.unusedSimpArgs false
set_option linter.unusedVariables false
theorem msg_info : (Tryd.prog.info? 143).map (·.size) = some 16 := by kernel_rfl
theorem msg_one {w : World} {lo hi : Nat} {lv fv : Value} {m : Msg} (h : MsgAt w lo hi lv fv m) : (m.cells lv fv).toArray.all (·.oneCell') = true := by
  obtain ⟨lA, lc, fA, fc, rfl, rfl⟩ := h.form
  simp [Msg.cells, Value.oneCell']
theorem pcheck_any (m : Msg) (w : World) (lo hi : Nat) (lv fv : Value) (h : MsgAt w lo hi lv fv m) (a1 : Addr) (h1 : w.cell? ⟨1, 0, none⟩ = some (errv a1)) : Calls Tryd.prog 76 #[.agg (m.cells lv fv).toArray] w (CheckPost (chkM m) a1 w) := by
  obtain ⟨lA, lc, fA, fc, rfl, rfl⟩ := h.form
  obtain ⟨kind, frm, to_, tn, tb, ts, br, bn, ar, an, led, xn, xb, xs, okm, frame⟩ := m
  exact pcheck_core kind frm to_ tn tb ts br bn ar an led xn xb xs okm frame lA fA led.length lc frame.length fc w lo hi a1 h1 (Lib.hid rfl) (Lib.hid rfl) h.led h.hi_ h.sz
def PPutPost (m : Msg) (a1 : Addr) (w : World) (e : Ending) (w' : World) : Prop :=
  Below w.heap.size w w' ∧ ((chkM m = false ∧ e = .returned (.tuple #[.slice none 0 0, errv a1])) ∨ (chkM m = true ∧ ∃ v, e = .returned (.tuple #[v, .nilIface]) ∧ OwnB w' w.heap.size v (putM m)))
theorem flatI_take {l : List Int} {k : Nat} {z : Int} (h : l[k]? = some z) : (l.take (k + 1)).flatMap encI = (l.take k).flatMap encI ++ encI z := by
  rw [List.take_add_one, h, List.flatMap_append]
  simp
theorem flatI_le {l : List Int} (h : ∀ x ∈ l, inG x) (k : Nat) (hl : l.length ≤ 14) : ((l.take k).flatMap encI).length ≤ 84 := by
  have h1 := flat_len (l.take k) (fun x hx => h x (List.mem_of_mem_take hx))
  have h2 : (l.take k).length ≤ 14 := by rw [List.length_take]; omega
  omega
set_option maxRecDepth 100000 in
set_option maxHeartbeats 3200000 in
theorem pput_any (m : Msg) (w : World) (lo hi : Nat) (lv fv : Value) (h : MsgAt w lo hi lv fv m) (a1 a12 : Addr) (h1 : w.cell? ⟨1, 0, none⟩ = some (errv a1)) (h12 : w.cell? ⟨12, 0, none⟩ = some (errv a12)) :
    Calls Tryd.prog 77 #[.agg (m.cells lv fv).toArray] w (PPutPost m a1 w) := by
  have h01 := World.block_lt_of_cell? w _ h1
  have h0c := World.block_lt_of_cell? w _ h12
  have hone := msg_one h
  go_enter Tryd.func77, Tryd.ntmps77
  go_upto_region 1 with (fail)
  refine wp_letter (fun W => Below w.heap.size w W ∧ Blk W w.heap.size 143 (m.cells lv fv).toArray) ⟨(Below.refl _ _).alloc (Nat.le_refl _) _, Blk.new w 143 _⟩ ?_
  rintro W ⟨hb, hX⟩
  obtain ⟨x, hx⟩ : ∃ x, x = w.heap.size := ⟨_, rfl⟩
  rw [← hx] at hX ⊢
  have hrX := hX.range
  have hW := h.below hb h.hi_
  have kc := pcheck_any m W lo hi lv fv hW a1 ((hb.cell h01).trans h1)
  have HB := Lib.hid (And.intro hb (And.intro hX hx))
  have H0 := Lib.hid (And.intro h (And.intro h1 (And.intro h12 (And.intro h01 h0c))))
  cases hc : chkM m with
  | false =>
    rw [hc] at kc
    have HK := Lib.hid kc
    have HCC := Lib.hid hc
    clear kc hb hX hx hW h h1 h12 h01 h0c hc
    go_wp2_with (first
      | ((with_reducible refine law_load 143 (.tmp 1) x 0 (m.cells lv fv) ?_ hrX Tryd.underlying143 ?_ ?_ ?_); rfl; rfl; exact msg_info)
      | (go_at_call 76; refine HK.out.mono ?_; rintro e w1 ⟨rfl, b1⟩; have HB1 := Lib.hid b1; clear b1)
      | fail)
    go_ret2
    exact ⟨HB.out.1.trans (HB1.out.mono HB.out.1.size), .inl ⟨HCC.out, rfl⟩⟩
  | true =>
    rw [hc] at kc
    have HK := Lib.hid kc
    have hnums := chkM_nums hc
    have HCC := Lib.hid (And.intro hc hnums)
    clear kc hb hX hx hW h h1 h12 h01 h0c hc hnums
    go_upto_region 4 with (first
      | ((with_reducible refine law_load 143 (.tmp 1) x 0 (m.cells lv fv) ?_ hrX Tryd.underlying143 ?_ ?_ ?_); rfl; rfl; exact msg_info)
      | (go_at_call 76; refine HK.out.mono ?_; rintro e w1 ⟨rfl, b1⟩; have HB1 := Lib.hid b1; clear b1)
      | fail)
    have b01 := HB.out.1.trans (HB1.out.mono HB.out.1.size)
    have hX1 := HB.out.2.1.below HB1.out HB.out.2.1.lt
    have cX := hX1.cell
    simp only [Msg.cells] at cX
    have hm1 := H0.out.1.below b01 H0.out.1.hi_
    have k70 := wwrite_any w1 lo hi lv m.led hm1.led hm1.hi_ hm1.sz a1 a12 ((b01.cell H0.out.2.2.2.1).trans H0.out.2.1) ((b01.cell H0.out.2.2.2.2).trans H0.out.2.2.1)
    have hgl := goodLed_iff.1 HCC.out.2.2.1
    have HK70 := Lib.hid (k70.mono (fun e w' h => h.good hgl.2 hgl.1))
    obtain ⟨nL, hnL⟩ : ∃ nL, nL = (sealN (ledN m.led)).length := ⟨_, rfl⟩
    rw [← hnL] at HK70
    obtain ⟨okv, hok⟩ : ∃ okv, okv = m.ok := ⟨_, rfl⟩
    rw [← hok] at cX
    have HX1 := Lib.hid (And.intro b01 (And.intro hX1 (And.intro hm1 (And.intro hnL hok))))
    have hx1l := hX1.lt
    clear b01 hX1 hm1 k70 hgl hnL hok hrX
    go_upto_if 27 with (first
      | (go_at_call 70
         refine HK70.out.mono ?_
         rintro e w2 ⟨A2, c2, rfl, o2, b2⟩
         have cX := fun i => (b2.cell (p := ⟨x, i, none⟩) hx1l).trans (cX i)
         have H2 := Lib.hid (And.intro o2 b2)
         clear o2 b2)
      | fail)
    go_cut [7] (fun v wx => v = .int .i64 (if okv = true then 1 else 0) ∧ wx = w2)
    case first =>
      cases okv with
      | true =>
        go_wp2_with (fail)
        go_meet
        exact ⟨by simp, rfl⟩
      | false =>
        go_wp2_with (fail)
        go_meet
        exact ⟨by simp, rfl⟩
    case rest =>
      obtain ⟨rfl, rfl⟩ := hcut
      obtain ⟨nk, hnk⟩ : ∃ nk : Int, nk = (if okv = true then 1 else 0) := ⟨_, rfl⟩
      rw [← hnk]
      have HNK := Lib.hid hnk
      clear hnk
      go_upto_region 12 with (first
        | (go_at_call 98
           refine (newWriter_w _).mono ?_
           rintro e w3 ⟨g, rfl, hg, hWA, b3⟩
           have cX := fun i => (b3.cell (p := ⟨x, i, none⟩) (Nat.lt_of_lt_of_le hx1l H2.out.2.size)).trans (cX i)
           have H3 := Lib.hid (And.intro hg (And.intro hWA b3))
           clear hg hWA b3)
        | fail)
      obtain ⟨ns, hns⟩ : ∃ ns : List Int, ns = [m.kind, m.frm, m.to_, m.tn, m.tb, m.ts, m.br, m.bn, m.ar, m.an, m.xn, m.xb, m.xs, nk] := ⟨_, rfl⟩
      have hnsm : ns = m.nums := by rw [hns, HNK.out, HX1.out.2.2.2.2]; rfl
      have hidx : ∀ k, k < 14 → ∃ z, ns[k]? = some z ∧ ∀ w, (Instr.index 224 (.agg #[.int .i64 m.kind, .int .i64 m.frm, .int .i64 m.to_, .int .i64 m.tn, .int .i64 m.tb, .int .i64 m.ts, .int .i64 m.br, .int .i64 m.bn, .int .i64 m.ar, .int .i64 m.an, .int .i64 m.xn, .int .i64 m.xb, .int .i64 m.xs, .int .i64 nk]) (.int .i64 (k : Nat))).run Tryd.prog w = .ok (.int .i64 z) w := fun k hk => by
        rw [hns]
        match k, hk with
        | 0, _ => exact ⟨m.kind, rfl, fun w => by kernel_rfl⟩
        | 1, _ => exact ⟨m.frm, rfl, fun w => by kernel_rfl⟩
        | 2, _ => exact ⟨m.to_, rfl, fun w => by kernel_rfl⟩
        | 3, _ => exact ⟨m.tn, rfl, fun w => by kernel_rfl⟩
        | 4, _ => exact ⟨m.tb, rfl, fun w => by kernel_rfl⟩
        | 5, _ => exact ⟨m.ts, rfl, fun w => by kernel_rfl⟩
        | 6, _ => exact ⟨m.br, rfl, fun w => by kernel_rfl⟩
        | 7, _ => exact ⟨m.bn, rfl, fun w => by kernel_rfl⟩
        | 8, _ => exact ⟨m.ar, rfl, fun w => by kernel_rfl⟩
        | 9, _ => exact ⟨m.an, rfl, fun w => by kernel_rfl⟩
        | 10, _ => exact ⟨m.xn, rfl, fun w => by kernel_rfl⟩
        | 11, _ => exact ⟨m.xb, rfl, fun w => by kernel_rfl⟩
        | 12, _ => exact ⟨m.xs, rfl, fun w => by kernel_rfl⟩
        | 13, _ => exact ⟨nk, rfl, fun w => by kernel_rfl⟩
      have HNS := Lib.hid (And.intro hnsm (show ns.length = 14 from by rw [hns]; rfl))
      have HIDX := Lib.hid hidx
      have hIn : ∀ z ∈ ns, inG z := by rw [hnsm]; exact HCC.out.2.1
      have HIN := Lib.hid hIn
      clear hns hnsm hidx hIn cX
      go_loopw [67] (fun i wr => ∃ (k : Nat), k ≤ 14 ∧ i = .int .i64 k ∧ Hid (WAt wr g g ((ns.take k).flatMap encI) ∧ Below g w3 wr)) (fun i _ => 14 - (intOf i).toNat)
      case atStart => exact ⟨0, Nat.zero_le _, rfl, Lib.hid ⟨H3.out.2.1, Below.refl _ _⟩⟩
      case round =>
        obtain ⟨k, hk, rfl, HW⟩ := hrel
        by_cases hlt : k < 14
        · obtain ⟨z, hz, hix⟩ := HIDX.out k hlt
          have hzG := HIN.out z (List.mem_of_getElem? hz)
          unfold inG at hzG
          have hle := flatI_le HIN.out k (by have := HNS.out.2; omega)
          have hen := enc_len6 (n := z.toNat) (by omega)
          have HK := Lib.hid (num_int8 wr g g z _ HW.out.1 (by omega) (by omega))
          have HZ := Lib.hid hz
          clear hz hzG hle hen
          go_wp2_with (fail)
          refine HK.out.mono ?_
          rintro e w4 ⟨rfl, h4, b4, _⟩
          have HR := Lib.hid (show WAt w4 g g ((ns.take (k + 1)).flatMap encI) ∧ Below g w3 w4 from ⟨by rw [flatI_take HZ.out]; exact h4, HW.out.2.trans b4⟩)
          clear h4 b4
          go_wp2_with (fail)
          go_roundw
          case rel => exact ⟨k + 1, by omega, by go_num, HR.out⟩
          case measure => simp [intOf]; omega
        · have hk14 : (14 : Nat) = k := by omega
          have HWF : Hid (WAt wr g g (m.nums.flatMap encI) ∧ Below g w3 wr) := Lib.hid ⟨by
            have := HW.out.1
            rw [← hk14, List.take_of_length_le (by have := HNS.out.2; omega), HNS.out.1] at this
            exact this, HW.out.2⟩
          clear hk14 HW
          have hxg : x < g := by have := H3.out.1; have := H2.out.2.size; omega
          have cX := fun i => ((HWF.out.2.cell (p := ⟨x, i, none⟩) hxg).trans ((H3.out.2.2.cell (p := ⟨x, i, none⟩) (Nat.lt_of_lt_of_le hx1l H2.out.2.size)).trans ((H2.out.2.cell (p := ⟨x, i, none⟩) hx1l).trans (HX1.out.2.1.cell i))))
          simp only [Msg.cells] at cX
          have hR2 : Rd wc 0 wc.heap.size 1 A2 (sealN (ledN m.led)).length (u8s (sealN (ledN m.led))) := by
            obtain ⟨A', c', e', r'⟩ := H2.out.1.rd
            obtain rfl : A2 = A' := by injection e'
            exact r'.wider (Nat.zero_le _) (Nat.le_refl _)
          have b23 : Below wc.heap.size wc wr := H3.out.2.2.trans (HWF.out.2.mono H3.out.1)
          have hlenm : (msgN m).length ≤ 8300000 := msgN_len HCC.out.1
          have hparts : (m.nums.flatMap encI).length + (lpB (sealN (ledN m.led))).length + (lpB m.frame).length = (msgN m).length := by unfold msgN; simp only [List.length_append]
          have hlp1 : (lpB (sealN (ledN m.led))).length = (enc (sealN (ledN m.led)).length).length + (sealN (ledN m.led)).length := by unfold lpB; rw [List.length_append]
          have hlp2 : (lpB m.frame).length = (enc m.frame.length).length + m.frame.length := by unfold lpB; rw [List.length_append]
          have k1 := wbytes_rd wr g wc.heap.size g c2 _ _ A2 HWF.out.1 (hR2.fr (Fr.of_below b23 (fun _ => False)) (Nat.le_refl _) (fun _ _ _ h => h)) H3.out.1 (by omega)
          rw [← HX1.out.2.2.2.1] at k1
          have HK1 := Lib.hid k1
          have k2 : ∀ w5, WAt w5 g g (m.nums.flatMap encI ++ enc nL ++ sealN (ledN m.led)) → Below g wr w5 → Calls Tryd.prog 131 #[.pointer (some ⟨g, 0, none⟩), fv] w5 fun e w' => e = .returned (.tuple #[]) ∧ WAt w' g g (msgN m) ∧ Below g w5 w' := fun w5 hw b5 => by
            obtain ⟨fA, fc, hfv, _, _, _, _, _, hfr⟩ := H0.out.1.frm
            have hlg : hi ≤ g := by have := H0.out.1.hi_; have := HX1.out.1.size; have := H2.out.2.size; have := H3.out.1; omega
            have hfr5 : Rd w5 0 hi 1 fA m.frame.length (u8s m.frame) := by
              have ball : Below w.heap.size w w5 := HX1.out.1.trans ((H2.out.2.mono HX1.out.1.size).trans ((H3.out.2.2.mono (Nat.le_trans HX1.out.1.size H2.out.2.size)).trans ((HWF.out.2.trans b5).mono (by have := HX1.out.1.size; have := H2.out.2.size; have := H3.out.1; omega))))
              exact (hfr.fr (Fr.of_below ball (fun _ => False)) H0.out.1.hi_ (fun _ _ _ h => h)).wider (Nat.zero_le _) (Nat.le_refl _)
            have hb0 : (m.nums.flatMap encI ++ enc nL ++ sealN (ledN m.led)).length = (m.nums.flatMap encI).length + (lpB (sealN (ledN m.led))).length := by
              rw [HX1.out.2.2.2.1]
              unfold lpB
              simp only [List.length_append]
              omega
            rw [hfv]
            refine (wbytes_rd w5 g hi g fc _ m.frame fA hw hfr5 hlg (by rw [hb0]; omega)).mono ?_
            rintro e w' ⟨rfl, q1, q2⟩
            refine ⟨rfl, ?_, q2⟩
            have : msgN m = m.nums.flatMap encI ++ enc nL ++ sealN (ledN m.led) ++ enc m.frame.length ++ m.frame := by
              rw [HX1.out.2.2.2.1]
              unfold msgN lpB
              simp only [List.append_assoc]
            rw [this]
            exact q1
          have HK2 := Lib.hid k2
          have HLN := Lib.hid hlenm
          have hcX : ∀ w5, Below g wr w5 → w5.cell? ⟨x, 15, none⟩ = some fv := fun w5 b5 => (b5.cell (p := ⟨x, 15, none⟩) hxg).trans (cX 15)
          have HCX := Lib.hid hcX
          obtain ⟨N, hN⟩ : ∃ N, N = (msgN m).length := ⟨_, rfl⟩
          have HN := Lib.hid hN
          clear hR2 b23 hlenm hparts hlp1 hlp2 k1 k2 hcX cX hN
          go_wp2_with (first
            | (go_at_call 131
               (with_reducible refine HK1.out.mono ?_)
               rintro e w5 ⟨rfl, h5, b5⟩
               have c5 := HCX.out w5 b5
               have H5 := Lib.hid (And.intro h5 b5)
               clear h5 b5)
            | (go_at_call 131
               (with_reducible refine (HK2.out w5 H5.out.1 H5.out.2).mono ?_)
               rintro e w6 ⟨rfl, h6, b6⟩
               have H6 := Lib.hid (And.intro h6 (H5.out.2.trans b6))
               clear h6 b6)
            | (go_at_call 102
               refine (done_some w6 g g (msgN m) H6.out.1 (by unfold msgN; simp only [List.length_append]; have := enc_pos m.frame.length; unfold lpB; simp only [List.length_append]; omega)).mono ?_
               rintro e w7 ⟨A7, c7, rfl, o7, b7⟩
               have H7 := Lib.hid (And.intro o7 b7)
               clear o7 b7)
            | fail)
          have hR7 := Rd.of_own H7.out.1.1 H7.out.1.2
          have k132 := wseal_any w7 w7.heap.size c7 A7 (msgN m) (hR7.wider (Nat.zero_le _) (Nat.le_refl _)) (Nat.le_refl _) (by have := HLN.out; omega) (msgN_byte (by obtain ⟨_, _, _, _, _, _, _, h256, _⟩ := H0.out.1.frm; exact h256))
          refine k132.mono ?_
          rintro e w8 ⟨v8, rfl, o8, b8⟩
          have bAll : Below w.heap.size w w7 := HX1.out.1.trans ((H2.out.2.mono HX1.out.1.size).trans ((H3.out.2.2.mono (Nat.le_trans HX1.out.1.size H2.out.2.size)).trans ((HWF.out.2.trans (H6.out.2.trans (H7.out.2.mono (by have := H6.out.1.1; have := H6.out.1; obtain ⟨_, _, _, _, hb, _⟩ := this; have := hb.lt; omega)))).mono (by have := HX1.out.1.size; have := H2.out.2.size; have := H3.out.1; omega))))
          have HO := Lib.hid (show PPutPost m a1 w (.returned (.tuple #[v8, .nilIface])) w8 from ⟨bAll.trans (b8.mono bAll.size), .inr ⟨HCC.out.1, v8, rfl, ⟨o8.1, o8.2.1, ownsRow_base o8.2.2 bAll.size⟩⟩⟩)
          clear o8 b8 bAll k132 hR7
          go_wp2_with (fail)
          go_ret2
          exact HO.out
end Go.Proofs.YtnlncfjibbdimaaDoor

namespace Go.Proofs.YtnlncfjibbdimaaDoor
open Go.RowKit
set_option linter.unusedSimpArgs false
set_option linter.unusedVariables false
def msgA : Msg := ⟨1, 0, 0, 0, 0, 0, 1, 0, 0, 0, [], 0, 0, 0, false, []⟩
def msgB : Msg := ⟨1, 0, 0, 0, 0, 0, 0, 0, 0, 0, [], 0, 0, 0, false, []⟩
theorem chkA : chkM msgA = true := by decide +kernel
theorem chkB0 : chkM msgB = false := by decide +kernel
theorem msg_nil (w : World) (m : Msg) (h1 : m.led = []) (h2 : m.frame = []) : MsgAt w 0 0 (.slice none 0 0) (.slice none 0 0) m :=
  ⟨by rw [h1]; exact (OwnLed.nil_ _ _ _).at_, by rw [h2]; exact ⟨none, 0, rfl, Nat.le_refl _, by omega, fun _ => rfl, by simp, fun x hx => (by cases hx), Rd.none_⟩, fun c hc => (by rw [h1] at hc; cases hc), Nat.zero_le _⟩
theorem putA : ∃ rest, putM msgA = 1 :: rest ∧ 14 ≤ rest.length := by
  have e1 : encI 1 = [1] := by unfold encI; exact enc_small (by decide)
  have e0 : encI 0 = [0] := by unfold encI; exact enc_small (by decide)
  refine ⟨_, by unfold putM sealN msgN msgA Msg.nums; simp only [List.flatMap_cons, e1, List.append_assoc, List.cons_append, List.nil_append]; rfl, ?_⟩
  simp only [e0, e1, List.length_append, List.length_cons, List.length_nil, List.flatMap_cons, List.flatMap_nil, if_false, Bool.false_eq_true, be4_length]
  omega
set_option maxRecDepth 100000 in
set_option maxHeartbeats 1600000 in
theorem alive15_any (w : World) (a1 a12 : Addr) (h1 : w.cell? ⟨1, 0, none⟩ = some (errv a1)) (h12 : w.cell? ⟨12, 0, none⟩ = some (errv a12)) : Calls Tryd.prog 74 #[] w fun e w' => e = .returned (.bool true) ∧ Below w.heap.size w w' := by
  have h01 := World.block_lt_of_cell? w _ h1
  have h0c := World.block_lt_of_cell? w _ h12
  have kA := pput_any msgA w 0 0 _ _ (msg_nil w msgA rfl rfl) a1 a12 h1 h12
  obtain ⟨n, hn⟩ : ∃ n, n = (putM msgA).length := ⟨_, rfl⟩
  have kA2 : Calls Tryd.prog 77 #[.agg #[.int .i64 1, .int .i64 0, .int .i64 0, .int .i64 0, .int .i64 0, .int .i64 0, .int .i64 1, .int .i64 0, .int .i64 0, .int .i64 0, .slice none 0 0, .int .i64 0, .int .i64 0, .int .i64 0, .bool false, .slice none 0 0]] w fun e w' => ∃ b c, e = .returned (.tuple #[.slice (some ⟨b, 0, none⟩) n c, .nilIface]) ∧ (15 ≤ n ∧ n ≤ c ∧ c ≤ 9223372036854775807) ∧ w'.cell? ⟨b, 0, none⟩ = some (.int .u8 1) ∧ Below w.heap.size w w' := by
    refine kA.mono ?_
    rintro e w' ⟨hb, ⟨hf, _⟩ | ⟨_, v, rfl, ho⟩⟩
    · rw [chkA] at hf; cases hf
    · obtain ⟨rest, hp, hr⟩ := putA
      have hlen : 15 ≤ n := by rw [hn, hp, List.length_cons]; omega
      rcases ho.2.2.2 with ⟨_, h0⟩ | ⟨g, cap, cur, hv, _, hB, h3, h4, h5, h6⟩
      · omega
      · refine ⟨g, cap, by rw [hv, hn], ⟨hlen, by rw [hn]; exact h3, by simpa only [maxLen] using h4⟩, ?_, hb⟩
        have hB' : Blk w' g 5 cur := hB
        rw [hB'.cell 0]
        have : (u8s (putM msgA))[0]? = some (.int .u8 1) := by rw [hp]; rfl
        rw [← h6, List.getElem?_take] at this
        split at this
        · simpa using this
        · cases this
  have HA := Lib.hid kA2
  have H0 := Lib.hid (And.intro h1 (And.intro h12 (And.intro h01 h0c)))
  have heq := errEq_same a1
  clear kA kA2 hn h1 h12 h01 h0c
  go_enter Tryd.func74, Tryd.ntmps74
  go_upto_region 2 with (first
    | (go_at_call 77
       refine HA.out.mono ?_
       rintro e w1 ⟨b, c, rfl, ⟨hn1, hn2, hn3⟩, hcell, b1⟩)
    | fail)
  have kB := pput_any msgB w1 0 0 _ _ (msg_nil w1 msgB rfl rfl) a1 a12 ((b1.cell H0.out.2.2.1).trans H0.out.1) ((b1.cell H0.out.2.2.2).trans H0.out.2.1)
  have kB2 : Calls Tryd.prog 77 #[.agg #[.int .i64 1, .int .i64 0, .int .i64 0, .int .i64 0, .int .i64 0, .int .i64 0, .int .i64 0, .int .i64 0, .int .i64 0, .int .i64 0, .slice none 0 0, .int .i64 0, .int .i64 0, .int .i64 0, .bool false, .slice none 0 0]] w1 fun e w' => e = .returned (.tuple #[.slice none 0 0, errv a1]) ∧ Below w1.heap.size w1 w' := by
    refine kB.mono ?_
    rintro e w' ⟨hb, ⟨_, rfl⟩ | ⟨hf, _⟩⟩
    · exact ⟨rfl, hb⟩
    · rw [chkB0] at hf; cases hf
  have HB := Lib.hid kB2
  have HB1 := Lib.hid b1
  have hbl := World.block_lt_of_cell? w1 _ hcell
  clear kB kB2 b1
  go_upto_region 3 with (first
    | (go_at_call 77
       refine HB.out.mono ?_
       rintro e w2 ⟨rfl, b2⟩
       have c2 := (b2.cell hbl).trans hcell
       have g2 := ((HB1.out.trans (b2.mono HB1.out.size)).cell H0.out.2.2.1).trans H0.out.1
       have HB2 := Lib.hid (HB1.out.trans (b2.mono HB1.out.size))
       clear b2)
    | fail)
  have hq1 : (14:Int) < (n:Int) := by omega
  have hq2 : (15:Int) ≤ (n:Int) := by omega
  go_wp2_with (fail)
  go_ret
  exact ⟨rfl, HB2.out⟩
end Go.Proofs.YtnlncfjibbdimaaDoor

namespace Go.Proofs.YtnlncfjibbdimaaDoor
open Go.RowKit
set_option linter.unusedSimpArgs false
set_option linter.unusedVariables false
def zRow : Array Value := #[.int .i64 0, .int .i64 0, .int .i64 0, .int .i64 0, .int .i64 0, .int .i64 0, .int .i64 0, .int .i64 0, .int .i64 0, .int .i64 0, .slice none 0 0, .int .i64 0, .int .i64 0, .int .i64 0, .bool false, .slice none 0 0]
theorem store143 {W : World} {z : Nat} {old : Array Value} (cells : Array Value) (h : Blk W z 143 old) (ho : old.size = cells.size) (h1 : cells.all (·.oneCell') = true) :
    ∃ W6, (storeCells ⟨z, 0, none⟩ cells.toList 0).run Tryd.prog W = .ok () W6 ∧ Blk W6 z 143 cells ∧ (∀ B, B ≤ z → Below B W W6) := by
  refine ⟨W.setRow z cells, ?_, setRow_heap W z old cells 143 (0, 0) h, fun B hB => ?_⟩
  · have := run_storeCells_from (P := Tryd.prog) z 143 cells.toList 0 old W h (by simp; omega) (fun v hv => (Array.all_eq_true_iff_forall_mem.1 h1) v (by simpa using hv))
    simpa using this
  · have : Fr B (fun _ => False) W (W.setRow z cells) := by
      refine ⟨rfl, rfl, rfl, by simp [World.setRow], fun k hk hs => ?_⟩
      simp only [World.setRow, Array.getElem?_modify]
      rw [if_neg (by omega)]
    exact this.below (fun _ _ h => h)
end Go.Proofs.YtnlncfjibbdimaaDoor

namespace Go.Proofs.YtnlncfjibbdimaaDoor
open Go.RowKit
set_option linter.unusedSimpArgs false
set_option linter.unusedVariables false
/-- A region's code, out of a body. -/
def findRegion (n : Nat) : Code → Option Code
  | .region id ops d => if id = n then some (.region id ops d) else none
  | .seq a b => match findRegion n a with
    | some c => some c
    | none => findRegion n b
  | .cond _ a b => match findRegion n a with
    | some c => some c
    | none => findRegion n b
  | .block _ c => findRegion n c
  | .loop c => findRegion n c
  | .scope c => findRegion n c
  | _ => none
noncomputable def reg80 (n : Nat) : Code := (((Tryd.f80.body).bind (findRegion n)).getD .skip)
theorem is_store {P : Program} {ops : Array Oper} {Q : Exit → Act → World → Prop} {rest : List Oper} {a : Act} {W : World} {d : Option Tmp} {tp : TypeId} {ps : String} {af : Array Edge} (ty : TypeId) (x y : Operand)
    (h : wpList P ops Q ({ dst := d, op := .store ty x y, type := tp, pos := ps, after := af, guard := none } :: rest) a W) : wpList P ops Q ({ dst := d, op := .store ty x y, type := tp, pos := ps, after := af, guard := none } :: rest) a W := h
set_option maxRecDepth 100000 in
theorem res80 (a : Array Value) (x : Nat) (cells : List Value) (v : Value) (W : World) (hl : cells.length = 16) (hX : Blk W x 143 cells.toArray) (h2 : a.getD 2 undef = .pointer (some ⟨x, 0, none⟩)) (h3 : a.getD 3 undef = v) :
    (results Tryd.f80 a).run Tryd.prog W = .ok (.tuple #[.agg cells.toArray, v]) W := by
  have hld := run_loadVar_mid (P := Tryd.prog) W x 0 143 cells _ hX.range Tryd.underlying143 rfl (by rw [hl]; exact msg_info)
  simp at h2 h3
  simp [go_sem] at hld
  simp [results, Tryd.results80, go_sem, hld, h2, h3]
def zList : List Value := [.int .i64 0, .int .i64 0, .int .i64 0, .int .i64 0, .int .i64 0, .int .i64 0, .int .i64 0, .int .i64 0, .int .i64 0, .int .i64 0, .slice none 0 0, .int .i64 0, .int .i64 0, .int .i64 0, .bool false, .slice none 0 0]
set_option maxRecDepth 100000 in
set_option maxHeartbeats 1600000 in
theorem get_reg18 (u0 u1 u3 u4 u5 u6 u7 u8 u9 u10 u11 u12 u13 u14 u15 u16 u17 u18 u19 u20 u21 u22 u23 u24 u25 u26 u27 u28 u29 u30 u31 u32 u33 u34 u35 u36 u37 u38 u39 u40 u41 u42 u43 u44 u45 u46 u47 u48 u49 u50 u51 u52 u53 u54 u55 u56 u57 u58 u59 u60 u61 u62 u63 u64 u65 u66 u67 u68 u69 u70 u71 u72 u73 u74 u75 u76 u77 u78 u79 u80 u81 u82 u83 u84 u85 u86 u87 u88 u89 u90 u91 u92 u93 u94 u95 u96 u97 u98 u99 u100 u101 u102 u103 u104 u105 u106 u107 u108 u109 u110 u111 u112 u113 u114 u115 u116 u117 u118 u119 : Value) (x : Nat) (a2 : Addr) (W : World) {K : Act → World → Prop} {Q : Exit → Act → World → Prop} (hX : Blk W x 143 zRow) (h2x : 2 < x) (c2 : W.cell? ⟨2, 0, none⟩ = some (errv a2))
    (hK : ∀ W', Blk W' x 143 zRow → (∀ B, B ≤ x → Below B W W') → K ⟨#[u0, u1, .pointer (some ⟨x, 0, none⟩), errv a2, u4, u5, u6, u7, u8, u9, u10, u11, u12, u13, u14, u15, u16, u17, u18, u19, u20, u21, u22, u23, u24, u25, u26, u27, u28, u29, u30, u31, u32, u33, u34, u35, u36, u37, u38, u39, u40, u41, u42, u43, u44, u45, u46, u47, u48, u49, u50, u51, u52, u53, u54, u55, u56, .agg zRow, errv a2, u59, u60, u61, u62, u63, u64, u65, u66, u67, u68, u69, u70, u71, u72, u73, u74, u75, u76, u77, u78, u79, u80, u81, u82, u83, u84, u85, u86, u87, u88, u89, u90, u91, u92, u93, u94, u95, u96, u97, u98, u99, u100, u101, u102, u103, u104, u105, u106, u107, u108, u109, u110, u111, u112, u113, u114, u115, u116, u117, u118, u119], []⟩ W') :
    Code.wp Tryd.prog (reg80 18) (Exit.then K Q) ⟨#[u0, u1, .pointer (some ⟨x, 0, none⟩), u3, u4, u5, u6, u7, u8, u9, u10, u11, u12, u13, u14, u15, u16, u17, u18, u19, u20, u21, u22, u23, u24, u25, u26, u27, u28, u29, u30, u31, u32, u33, u34, u35, u36, u37, u38, u39, u40, u41, u42, u43, u44, u45, u46, u47, u48, u49, u50, u51, u52, u53, u54, u55, u56, u57, u58, u59, u60, u61, u62, u63, u64, u65, u66, u67, u68, u69, u70, u71, u72, u73, u74, u75, u76, u77, u78, u79, u80, u81, u82, u83, u84, u85, u86, u87, u88, u89, u90, u91, u92, u93, u94, u95, u96, u97, u98, u99, u100, u101, u102, u103, u104, u105, u106, u107, u108, u109, u110, u111, u112, u113, u114, u115, u116, u117, u118, u119], []⟩ W := by
  conv => arg 2; whnf
  obtain ⟨W6, e1, hX6, hb6⟩ := store143 (W := W.drew) zRow hX.drew rfl (by simp [zRow, Value.oneCell'])
  have hc6 : W6.cell? ⟨2, 0, none⟩ = some (errv a2) := ((hb6 x (Nat.le_refl _)).cell (p := ⟨2, 0, none⟩) h2x).trans c2
  have HF := Lib.hid (show K ⟨#[u0, u1, .pointer (some ⟨x, 0, none⟩), errv a2, u4, u5, u6, u7, u8, u9, u10, u11, u12, u13, u14, u15, u16, u17, u18, u19, u20, u21, u22, u23, u24, u25, u26, u27, u28, u29, u30, u31, u32, u33, u34, u35, u36, u37, u38, u39, u40, u41, u42, u43, u44, u45, u46, u47, u48, u49, u50, u51, u52, u53, u54, u55, u56, .agg zRow, errv a2, u59, u60, u61, u62, u63, u64, u65, u66, u67, u68, u69, u70, u71, u72, u73, u74, u75, u76, u77, u78, u79, u80, u81, u82, u83, u84, u85, u86, u87, u88, u89, u90, u91, u92, u93, u94, u95, u96, u97, u98, u99, u100, u101, u102, u103, u104, u105, u106, u107, u108, u109, u110, u111, u112, u113, u114, u115, u116, u117, u118, u119], []⟩ W6 from hK W6 hX6 (fun B hB => ((Below.refl B W).drew).trans (hb6 B hB)))
  clear hX hX6 hb6 hK
  simp [zRow, go_sem] at e1
  go_region_held3 (fun w' => w'.cell? ⟨2, 0, none⟩ = some (errv a2)) (go_keep) (fail)
  exact HF.out
set_option maxRecDepth 100000 in
set_option maxHeartbeats 1600000 in
theorem get_reg21 (u0 u1 u3 u4 u5 u6 u7 u8 u9 u10 u11 u12 u13 u14 u15 u16 u17 u18 u19 u20 u21 u22 u23 u24 u25 u26 u27 u28 u29 u30 u31 u32 u33 u34 u35 u36 u37 u38 u39 u40 u41 u42 u43 u44 u45 u46 u47 u48 u49 u50 u51 u52 u53 u54 u55 u56 u57 u58 u59 u60 u61 u62 u63 u64 u65 u66 u67 u68 u69 u70 u71 u72 u73 u74 u75 u76 u77 u78 u79 u80 u81 u82 u83 u84 u85 u86 u87 u88 u89 u90 u91 u92 u93 u94 u95 u96 u97 u98 u99 u100 u101 u102 u103 u104 u105 u106 u107 u108 u109 u110 u111 u112 u113 u114 u115 u116 u117 u118 u119 : Value) (x : Nat) (a2 : Addr) (W : World) {K : Act → World → Prop} {Q : Exit → Act → World → Prop} (hX : Blk W x 143 zRow) (h2x : 2 < x) (c2 : W.cell? ⟨2, 0, none⟩ = some (errv a2))
    (hK : ∀ W', Blk W' x 143 zRow → (∀ B, B ≤ x → Below B W W') → K ⟨#[u0, u1, .pointer (some ⟨x, 0, none⟩), errv a2, u4, u5, u6, u7, u8, u9, u10, u11, u12, u13, u14, u15, u16, u17, u18, u19, u20, u21, u22, u23, u24, u25, u26, u27, u28, u29, u30, u31, u32, u33, u34, u35, u36, u37, u38, u39, u40, u41, u42, u43, u44, u45, u46, u47, u48, u49, u50, u51, u52, u53, u54, u55, u56, u57, u58, u59, u60, u61, u62, u63, u64, u65, u66, u67, u68, u69, u70, u71, u72, u73, u74, u75, .agg zRow, errv a2, u78, u79, u80, u81, u82, u83, u84, u85, u86, u87, u88, u89, u90, u91, u92, u93, u94, u95, u96, u97, u98, u99, u100, u101, u102, u103, u104, u105, u106, u107, u108, u109, u110, u111, u112, u113, u114, u115, u116, u117, u118, u119], []⟩ W') :
    Code.wp Tryd.prog (reg80 21) (Exit.then K Q) ⟨#[u0, u1, .pointer (some ⟨x, 0, none⟩), u3, u4, u5, u6, u7, u8, u9, u10, u11, u12, u13, u14, u15, u16, u17, u18, u19, u20, u21, u22, u23, u24, u25, u26, u27, u28, u29, u30, u31, u32, u33, u34, u35, u36, u37, u38, u39, u40, u41, u42, u43, u44, u45, u46, u47, u48, u49, u50, u51, u52, u53, u54, u55, u56, u57, u58, u59, u60, u61, u62, u63, u64, u65, u66, u67, u68, u69, u70, u71, u72, u73, u74, u75, u76, u77, u78, u79, u80, u81, u82, u83, u84, u85, u86, u87, u88, u89, u90, u91, u92, u93, u94, u95, u96, u97, u98, u99, u100, u101, u102, u103, u104, u105, u106, u107, u108, u109, u110, u111, u112, u113, u114, u115, u116, u117, u118, u119], []⟩ W := by
  conv => arg 2; whnf
  obtain ⟨W6, e1, hX6, hb6⟩ := store143 (W := W.drew) zRow hX.drew rfl (by simp [zRow, Value.oneCell'])
  have hc6 : W6.cell? ⟨2, 0, none⟩ = some (errv a2) := ((hb6 x (Nat.le_refl _)).cell (p := ⟨2, 0, none⟩) h2x).trans c2
  have HF := Lib.hid (show K ⟨#[u0, u1, .pointer (some ⟨x, 0, none⟩), errv a2, u4, u5, u6, u7, u8, u9, u10, u11, u12, u13, u14, u15, u16, u17, u18, u19, u20, u21, u22, u23, u24, u25, u26, u27, u28, u29, u30, u31, u32, u33, u34, u35, u36, u37, u38, u39, u40, u41, u42, u43, u44, u45, u46, u47, u48, u49, u50, u51, u52, u53, u54, u55, u56, u57, u58, u59, u60, u61, u62, u63, u64, u65, u66, u67, u68, u69, u70, u71, u72, u73, u74, u75, .agg zRow, errv a2, u78, u79, u80, u81, u82, u83, u84, u85, u86, u87, u88, u89, u90, u91, u92, u93, u94, u95, u96, u97, u98, u99, u100, u101, u102, u103, u104, u105, u106, u107, u108, u109, u110, u111, u112, u113, u114, u115, u116, u117, u118, u119], []⟩ W6 from hK W6 hX6 (fun B hB => ((Below.refl B W).drew).trans (hb6 B hB)))
  clear hX hX6 hb6 hK
  simp [zRow, go_sem] at e1
  go_region_held3 (fun w' => w'.cell? ⟨2, 0, none⟩ = some (errv a2)) (go_keep) (fail)
  exact HF.out
set_option maxRecDepth 100000 in
set_option maxHeartbeats 1600000 in
theorem get_reg24 (u0 u1 u3 u4 u5 u6 u7 u8 u9 u10 u11 u12 u13 u14 u15 u16 u17 u18 u19 u20 u21 u22 u23 u24 u25 u26 u27 u28 u29 u30 u31 u32 u33 u34 u35 u36 u37 u38 u39 u40 u41 u42 u43 u44 u45 u46 u47 u48 u49 u50 u51 u52 u53 u54 u55 u56 u57 u58 u59 u60 u61 u62 u63 u64 u65 u66 u67 u68 u69 u70 u71 u72 u73 u74 u75 u76 u77 u78 u79 u80 u81 u82 u83 u84 u85 u86 u87 u88 u89 u90 u91 u92 u93 u94 u95 u96 u97 u98 u99 u100 u101 u102 u103 u104 u105 u106 u107 u108 u109 u110 u111 u112 u113 u114 u115 u116 u117 u118 u119 : Value) (x : Nat) (a2 : Addr) (W : World) {K : Act → World → Prop} {Q : Exit → Act → World → Prop} (hX : Blk W x 143 zRow) (h2x : 2 < x) (c2 : W.cell? ⟨2, 0, none⟩ = some (errv a2))
    (hK : ∀ W', Blk W' x 143 zRow → (∀ B, B ≤ x → Below B W W') → K ⟨#[u0, u1, .pointer (some ⟨x, 0, none⟩), errv a2, u4, u5, u6, u7, u8, u9, u10, u11, u12, u13, u14, u15, u16, u17, u18, u19, u20, u21, u22, u23, u24, u25, u26, u27, u28, u29, u30, u31, u32, u33, u34, u35, u36, u37, u38, u39, u40, u41, u42, u43, u44, u45, u46, u47, u48, u49, u50, u51, u52, u53, u54, u55, u56, u57, u58, u59, u60, u61, u62, u63, u64, u65, u66, u67, u68, u69, u70, u71, u72, u73, u74, u75, u76, u77, u78, u79, u80, u81, u82, u83, u84, u85, u86, u87, u88, u89, u90, u91, u92, u93, u94, u95, u96, u97, u98, u99, u100, u101, u102, u103, u104, u105, u106, u107, u108, u109, u110, u111, u112, u113, u114, u115, u116, .agg zRow, errv a2, u119], []⟩ W') :
    Code.wp Tryd.prog (reg80 24) (Exit.then K Q) ⟨#[u0, u1, .pointer (some ⟨x, 0, none⟩), u3, u4, u5, u6, u7, u8, u9, u10, u11, u12, u13, u14, u15, u16, u17, u18, u19, u20, u21, u22, u23, u24, u25, u26, u27, u28, u29, u30, u31, u32, u33, u34, u35, u36, u37, u38, u39, u40, u41, u42, u43, u44, u45, u46, u47, u48, u49, u50, u51, u52, u53, u54, u55, u56, u57, u58, u59, u60, u61, u62, u63, u64, u65, u66, u67, u68, u69, u70, u71, u72, u73, u74, u75, u76, u77, u78, u79, u80, u81, u82, u83, u84, u85, u86, u87, u88, u89, u90, u91, u92, u93, u94, u95, u96, u97, u98, u99, u100, u101, u102, u103, u104, u105, u106, u107, u108, u109, u110, u111, u112, u113, u114, u115, u116, u117, u118, u119], []⟩ W := by
  conv => arg 2; whnf
  obtain ⟨W6, e1, hX6, hb6⟩ := store143 (W := W.drew) zRow hX.drew rfl (by simp [zRow, Value.oneCell'])
  have hc6 : W6.cell? ⟨2, 0, none⟩ = some (errv a2) := ((hb6 x (Nat.le_refl _)).cell (p := ⟨2, 0, none⟩) h2x).trans c2
  have HF := Lib.hid (show K ⟨#[u0, u1, .pointer (some ⟨x, 0, none⟩), errv a2, u4, u5, u6, u7, u8, u9, u10, u11, u12, u13, u14, u15, u16, u17, u18, u19, u20, u21, u22, u23, u24, u25, u26, u27, u28, u29, u30, u31, u32, u33, u34, u35, u36, u37, u38, u39, u40, u41, u42, u43, u44, u45, u46, u47, u48, u49, u50, u51, u52, u53, u54, u55, u56, u57, u58, u59, u60, u61, u62, u63, u64, u65, u66, u67, u68, u69, u70, u71, u72, u73, u74, u75, u76, u77, u78, u79, u80, u81, u82, u83, u84, u85, u86, u87, u88, u89, u90, u91, u92, u93, u94, u95, u96, u97, u98, u99, u100, u101, u102, u103, u104, u105, u106, u107, u108, u109, u110, u111, u112, u113, u114, u115, u116, .agg zRow, errv a2, u119], []⟩ W6 from hK W6 hX6 (fun B hB => ((Below.refl B W).drew).trans (hb6 B hB)))
  clear hX hX6 hb6 hK
  simp [zRow, go_sem] at e1
  go_region_held3 (fun w' => w'.cell? ⟨2, 0, none⟩ = some (errv a2)) (go_keep) (fail)
  exact HF.out
set_option maxRecDepth 100000 in
set_option maxHeartbeats 3200000 in
theorem get_reg22 (u0 u1 u2 u3 u4 u5 u6 u8 u9 u12 u13 u14 u15 u16 u17 u18 u19 u20 u21 u22 u23 u24 u25 u26 u27 u28 u29 u30 u31 u32 u33 u34 u35 u36 u37 u38 u39 u40 u41 u42 u43 u44 u45 u46 u47 u48 u49 u50 u51 u52 u53 u54 u55 u56 u57 u58 u59 u60 u61 u62 u63 u64 u65 u66 u67 u68 u69 u70 u71 u72 u73 u74 u75 u76 u77 u78 u79 u80 u81 u82 u83 u84 u85 u86 u87 u88 u89 u90 u91 u92 u93 u94 u95 u96 u97 u98 u99 u100 u101 u102 u103 u104 u105 u106 u107 u108 u109 u110 u111 u112 u113 u114 u115 u116 u117 u118 u119 : Value) (y : Nat) (A5 A6 : Option Addr) (nv5 c5 nf c6 : Nat) (n0 n1 n2 n3 n4 n5 n6 n7 n8 n9 n10 n11 n12 n13 : Int) (W : World) {K : Act → World → Prop} {Q : Exit → Act → World → Prop}
    (cY : ∀ i : Nat, W.cell? ⟨y, i, none⟩ = (#[.int .i64 n0, .int .i64 n1, .int .i64 n2, .int .i64 n3, .int .i64 n4, .int .i64 n5, .int .i64 n6, .int .i64 n7, .int .i64 n8, .int .i64 n9, .int .i64 n10, .int .i64 n11, .int .i64 n12, .int .i64 n13] : Array Value)[i]?)
    (hK : ∀ (v78 v79 v80 v81 v82 v83 v84 v85 v86 v87 v88 v89 v90 v91 v92 v93 v94 v95 v96 v97 v98 v99 v100 v101 v102 v103 v104 v105 v106 v107 v108 v109 v110 v111 v112 v113 : Value), K ⟨#[u0, u1, u2, u3, u4, u5, u6, .pointer (some ⟨y, 0, none⟩), u8, u9, .slice A5 nv5 c5, .slice A6 nf c6, .pointer (some ⟨W.heap.size, 0, none⟩), u13, u14, u15, u16, u17, u18, u19, u20, u21, u22, u23, u24, u25, u26, u27, u28, u29, u30, u31, u32, u33, u34, u35, u36, u37, u38, u39, u40, u41, u42, u43, u44, u45, u46, u47, u48, u49, u50, u51, u52, u53, u54, u55, u56, u57, u58, u59, u60, u61, u62, u63, u64, u65, u66, u67, u68, u69, u70, u71, u72, u73, u74, u75, u76, u77, v78, v79, v80, v81, v82, v83, v84, v85, v86, v87, v88, v89, v90, v91, v92, v93, v94, v95, v96, v97, v98, v99, v100, v101, v102, v103, v104, v105, v106, v107, v108, v109, v110, v111, v112, v113, u114, u115, u116, u117, u118, u119], []⟩ (W.alloc (.cells #[.int .i64 n0, .int .i64 n1, .int .i64 n2, .int .i64 n3, .int .i64 n4, .int .i64 n5, .int .i64 n6, .int .i64 n7, .int .i64 n8, .int .i64 n9, .slice A5 nv5 c5, .int .i64 n10, .int .i64 n11, .int .i64 n12, .bool (n13 == 1), .slice A6 nf c6] 143))) :
    Code.wp Tryd.prog (reg80 22) (Exit.then K Q) ⟨#[u0, u1, u2, u3, u4, u5, u6, .pointer (some ⟨y, 0, none⟩), u8, u9, .slice A5 nv5 c5, .slice A6 nf c6, u12, u13, u14, u15, u16, u17, u18, u19, u20, u21, u22, u23, u24, u25, u26, u27, u28, u29, u30, u31, u32, u33, u34, u35, u36, u37, u38, u39, u40, u41, u42, u43, u44, u45, u46, u47, u48, u49, u50, u51, u52, u53, u54, u55, u56, u57, u58, u59, u60, u61, u62, u63, u64, u65, u66, u67, u68, u69, u70, u71, u72, u73, u74, u75, u76, u77, u78, u79, u80, u81, u82, u83, u84, u85, u86, u87, u88, u89, u90, u91, u92, u93, u94, u95, u96, u97, u98, u99, u100, u101, u102, u103, u104, u105, u106, u107, u108, u109, u110, u111, u112, u113, u114, u115, u116, u117, u118, u119], []⟩ W := by
  have HF := Lib.hid hK
  have hone : (#[.int .i64 n0, .int .i64 n1, .int .i64 n2, .int .i64 n3, .int .i64 n4, .int .i64 n5, .int .i64 n6, .int .i64 n7, .int .i64 n8, .int .i64 n9, .slice A5 nv5 c5, .int .i64 n10, .int .i64 n11, .int .i64 n12, .bool (n13 == 1), .slice A6 nf c6] : Array Value).all (·.oneCell') = true := by simp [Value.oneCell']
  have HO := Lib.hid hone
  clear hK hone
  conv => arg 2; whnf
  go_wp2_with (first
    | ((with_reducible refine is_store 143 (.tmp 12) (.tmp 113) ?_)
       refine law_store_fresh 143 (.tmp 12) (.tmp 113) W 143 _ _ (by rfl) (by rfl) rfl msg_info (by rfl) HO.out ?_)
    | fail)
  exact HF.out _ _ _ _ _ _ _ _ _ _ _ _ _ _ _ _ _ _ _ _ _ _ _ _ _ _ _ _ _ _ _ _ _ _ _ _
end Go.Proofs.YtnlncfjibbdimaaDoor

namespace Go.Proofs.YtnlncfjibbdimaaDoor
open Go.RowKit
set_option linter.unusedSimpArgs false
set_option linter.unusedVariables false
def Num136 (lo g : Nat) (R : List Nat) (a2 : Addr) (w : World) (e : Ending) (w' : World) : Prop :=
  (pNum R = none ∧ e = .returned (.tuple #[.int .i64 0, errv a2]) ∧ Below w.heap.size w w') ∨
  (∃ n R', pNum R = some (n, R') ∧ n ≤ 1099511627776 ∧ e = .returned (.tuple #[.int .i64 n, .nilIface]) ∧ Rem w' lo g R' ∧ Fr w.heap.size (fun k => k = g) w w')
theorem num136_any (w : World) (lo g : Nat) (R : List Nat) (h : Rem w lo g R) (a2 : Addr) (h2 : w.cell? ⟨2, 0, none⟩ = some (errv a2)) :
    Calls Tryd.prog 136 #[.pointer (some ⟨g, 0, none⟩), .int .i64 1099511627776] w (Num136 lo g R a2 w) := by
  obtain ⟨bs, q, hR, rfl⟩ := h
  by_cases hg : ∃ n r, dec (bs.drop q) = some (n, r) ∧ n ≤ 1099511627776
  · obtain ⟨n, r, hd, hn⟩ := hg
    refine (rdnum_good w lo g q 1099511627776 n bs r hR hd hn (by omega)).mono ?_
    rintro e w' ⟨q', rfl, rfl, h3, h4⟩
    exact .inr ⟨n, _, by unfold pNum; rw [hd]; exact if_pos hn, hn, rfl, ⟨bs, q', h3, rfl⟩, h4⟩
  · refine (rdnum_bad w lo g q 1099511627776 bs hR (fun n r hd => by
      rcases Nat.lt_or_ge 1099511627776 n with h | h
      · exact h
      · exact absurd ⟨n, r, hd, h⟩ hg) (by omega) a2 h2).mono ?_
    rintro e w' ⟨rfl, hb⟩
    refine .inl ⟨?_, rfl, hb⟩
    unfold pNum
    cases hd : dec (bs.drop q) with
    | none => rfl
    | some x =>
      obtain ⟨n, r⟩ := x
      exact if_neg (fun h => hg ⟨n, r, hd, h⟩)
def Bytes137 (lo g most : Nat) (R : List Nat) (a2 : Addr) (w : World) (e : Ending) (w' : World) : Prop :=
  (pBytes most R = none ∧ e = .returned (.tuple #[.slice none 0 0, errv a2]) ∧ Below w.heap.size w w') ∨
  (∃ xs R' A c, pBytes most R = some (xs, R') ∧ e = .returned (.tuple #[.slice A xs.length c, .nilIface]) ∧ OwnB w' w.heap.size (.slice A xs.length c) xs ∧ Rem w' lo g R' ∧ Fr w.heap.size (fun k => k = g) w w')
theorem bytes137_any (w : World) (lo g most : Nat) (R : List Nat) (hm : most ≤ 140737488355328) (h : Rem w lo g R) (a2 : Addr) (h2 : w.cell? ⟨2, 0, none⟩ = some (errv a2)) :
    Calls Tryd.prog 137 #[.pointer (some ⟨g, 0, none⟩), .int .i64 most] w (Bytes137 lo g most R a2 w) := by
  obtain ⟨bs, q, hR, rfl⟩ := h
  by_cases hg : ∃ n r, dec (bs.drop q) = some (n, r) ∧ n ≤ most ∧ n ≤ r.length
  · obtain ⟨n, r, hd, hn, hr⟩ := hg
    have hl : (r.take n).length = n := by rw [List.length_take]; omega
    refine (rdbytes_good w lo g q most bs (r.take n) (r.drop n) hR (by rw [hl, List.take_append_drop]; exact hd) (by omega) hm).mono ?_
    rintro e w' ⟨q', A, c, h1, rfl, ho, h3, h4⟩
    exact .inr ⟨r.take n, r.drop n, A, c, by unfold pBytes; rw [hd]; exact if_pos ⟨hn, hr⟩, rfl, ho, ⟨bs, q', h3, h1⟩, h4⟩
  · refine (rdbytes_bad w lo g q most bs hR (fun n r hd => by
      rcases Nat.lt_or_ge most n with h | h
      · exact .inl h
      · rcases Nat.lt_or_ge r.length n with h' | h'
        · exact .inr h'
        · exact absurd ⟨n, r, hd, h, h'⟩ hg) hm a2 h2).mono ?_
    rintro e w' ⟨rfl, hb⟩
    refine .inl ⟨?_, rfl, hb⟩
    unfold pBytes
    cases hd : dec (bs.drop q) with
    | none => rfl
    | some x =>
      obtain ⟨n, r⟩ := x
      exact if_neg (fun h => hg ⟨n, r, hd, h.1, h.2⟩)
end Go.Proofs.YtnlncfjibbdimaaDoor
