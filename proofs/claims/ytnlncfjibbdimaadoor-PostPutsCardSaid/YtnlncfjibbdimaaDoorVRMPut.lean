/-
  The document's Put of a message in form.
-/
import Derived.Test.YtnlncfjibbdimaaDoorULaws
import Derived.Test.YtnlncfjibbdimaaDoorUBase
import Derived.Test.YtnlncfjibbdimaaDoorURefWire
import Derived.Test.YtnlncfjibbdimaaDoorUWireX
import Derived.Test.YtnlncfjibbdimaaDoorUSameL
import Derived.Test.YtnlncfjibbdimaaDoorUCheck
import Derived.Test.YtnlncfjibbdimaaDoorUPiece
import Derived.Test.YtnlncfjibbdimaaDoorUKind
import Derived.Test.YtnlncfjibbdimaaDoorULex
import Derived.Test.YtnlncfjibbdimaaDoorUNames5
import Derived.Test.YtnlncfjibbdimaaDoorUSameC
import Derived.Test.YtnlncfjibbdimaaDoorURdrA
import Derived.Test.YtnlncfjibbdimaaDoorURdX
import Derived.Test.YtnlncfjibbdimaaDoorUReadX
import Derived.Test.YtnlncfjibbdimaaDoorUGetZ
import Derived.Test.YtnlncfjibbdimaaDoorURdr6
import Derived.Test.YtnlncfjibbdimaaDoorURdr8
import Derived.Test.YtnlncfjibbdimaaDoorUDGet
import Derived.Test.YtnlncfjibbdimaaDoorUInLaw
import Derived.Test.YtnlncfjibbdimaaDoorUInForm
import Derived.Test.YtnlncfjibbdimaaDoorURRead
import Derived.Test.YtnlncfjibbdimaaDoorUPWire
import Derived.Test.YtnlncfjibbdimaaDoorUPCheck
import Derived.Test.YtnlncfjibbdimaaDoorULedgersW
import Derived.Test.YtnlncfjibbdimaaDoorURPut
namespace Go.Proofs.YtnlncfjibbdimaaDoor
open Go.RowKit
set_option linter.unusedSimpArgs false
set_option linter.unusedVariables false
def CopyPost (w : World) (l : List Cmd) (e : Ending) (w' : World) : Prop :=
  ∃ v, e = .returned v ∧ OwnLed w' w.heap.size w'.heap.size v l ∧ Below w.heap.size w w'
theorem CopInv.start_made {w : World} {l : List Cmd} : CopInv w l (w.alloc (.cells #[] 81)) (.slice (some ⟨w.heap.size, 0, none⟩) 0 0) 0 :=
  ⟨[], ⟨World.ownsRow_made w #[] 0 (Nat.le_refl _) (by simp [maxLen]) (by simp), fun g hg => by simp [Value.ownBlock] at hg; simp; omega⟩, ⟨rfl, fun i r c h _ => by simp at h⟩, (Below.refl _ _).alloc (Nat.le_refl _) _⟩
theorem CopInv.done {w wr : World} {l : List Cmd} {out : Value} (h : CopInv w l wr out l.length) (hb : l.length * 184 ≤ 140737488355328) : CopyPost w l (.returned out) wr := by
  obtain ⟨rows, h1, h2, h3⟩ := h
  rw [List.take_length] at h2
  exact ⟨out, rfl, ⟨rows, h1, hb, h2⟩, h3⟩
end Go.Proofs.YtnlncfjibbdimaaDoor

namespace Go.Proofs.YtnlncfjibbdimaaDoor
open Go.RowKit
set_option linter.unusedSimpArgs false
set_option linter.unusedVariables false
theorem OwnB.capR {w : World} {lo n c : Nat} {A : Option Addr} {bs : List Nat} (h : OwnB w lo (.slice A n c) bs) : bs.length ≤ c ∧ c ≤ 9223372036854775807 := by
  rcases h.2.2.2 with ⟨h1, h2⟩ | ⟨_, _, _, h1, _, _, h2, h3, _⟩
  · injection h1 with _ _ h1
    omega
  · injection h1 with _ _ h1
    subst h1
    simp only [maxLen] at h3
    exact ⟨h2, h3⟩
end Go.Proofs.YtnlncfjibbdimaaDoor

namespace Go.Proofs.YtnlncfjibbdimaaDoor
open Go.RowKit
set_option linter.unusedSimpArgs false
set_option linter.unusedVariables false
set_option maxHeartbeats 400000 in
theorem rcopy_any (w : World) (lo hi : Nat) (v : Value) (l : List Cmd) (h : LedAt w lo hi v l) (hhi : hi ≤ w.heap.size) :
    Calls Tryd.prog 42 #[v] w (CopyPost w l) := by
  obtain ⟨A, cap, rfl, hl, hc, hb⟩ := h.form
  obtain ⟨n, hn⟩ : ∃ n, n = l.length := ⟨_, rfl⟩
  rw [← hn] at h hl hb ⊢
  have hm : n ≤ 9223372036854775807 := by simp only [maxLen] at hc; omega
  have HN := Lib.hid hn
  have HC := Lib.hid hc
  have HB := Lib.hid hb
  have HL := Lib.hid hl
  clear hn hl hc hb
  obtain ⟨i1, z1, hi1, hz11, hz12, hz13, hz14⟩ := cmd_info'
  obtain ⟨i0, hi0, hz0, hz1, hz2⟩ := info_parts int_info
  go_enter Tryd.func42, Tryd.ntmps42
  go_wp2
  go_loopw [3, 9] (fun out i wr => ∃ k : Nat, k ≤ n ∧ i = .int .i64 k ∧ CopInv w l wr out k) (fun _ i _ => n - (intOf i).toNat)
  case atStart => exact ⟨0, Nat.zero_le _, rfl, CopInv.start_made⟩
  case round =>
    obtain ⟨k, hk, rfl, hinv⟩ := hrel
    by_cases hlt : k < n
    · obtain ⟨rows, hown, hrows, hbel⟩ := hinv
      have hk' : k < l.length := by rw [← HN.out]; exact hlt
      have hlk := List.getElem?_eq_getElem hk'
      obtain ⟨b, o, pv, rfl, hlo, hhi', hr0, hparts⟩ := h.range hlk
      obtain ⟨c, hc⟩ : ∃ c, c = l[k] := ⟨_, rfl⟩
      rw [← hc] at hr0 hparts hlk
      have HLK := Lib.hid hlk
      clear hc hlk
      have hrange : wr.rangeAt b (o + k * 18) (c.cells pv) := rangeAt_fr hr0 (Fr.of_below hbel (fun _ => False)) (by omega) (fun h => h)
      clear hr0
      obtain ⟨pA, pc, hpv⟩ : ∃ pA pc, pv = .slice pA c.parts.length pc := by
        obtain ⟨A1, c1, q1, _⟩ := hparts
        exact ⟨A1, c1, q1⟩
      subst hpv
      have h15 : ∀ u, (c.cells u)[15]? = some u := fun _ => rfl
      have hsw := hbel.size
      obtain ⟨hp1, hp2⟩ : c.parts.length ≤ maxLen ∧ c.parts.length * 8 ≤ 140737488355328 := by
        obtain ⟨A1, c1, _, q2, q3, q4, _⟩ := hparts
        exact ⟨by omega, q4⟩
      have HP := Lib.hid hp1
      have HP2 := Lib.hid hp2
      clear hp1 hp2
      have hsrc : Rd ((wr.alloc (.cells (c.cells (.slice pA c.parts.length pc)).toArray 81)).alloc (.cells #[] 3)) lo hi 1 pA c.parts.length (ints c.parts) := by
        obtain ⟨A1, c1, q1, _, _, _, q5⟩ := hparts
        injection q1 with q1 _ _
        rw [q1]
        exact q5.fr (Fr.of_below (((hbel.mono hhi).alloc (by omega) _).alloc (by simp; omega) _) (fun _ => False)) (Nat.le_refl _) (fun _ _ _ h => h)
      have hmade : ((wr.alloc (.cells (c.cells (.slice pA c.parts.length pc)).toArray 81)).alloc (.cells #[] 3)).ownsRow (wr.heap.size + 1) 3 1 (.slice (some ⟨wr.heap.size + 1, 0, none⟩) 0 0) 0 [] := by
        have := World.ownsRow_made (base := wr.heap.size + 1) (e := 3) (size := 1) (wr.alloc (.cells (c.cells (.slice pA c.parts.length pc)).toArray 81)) #[] 0 (by simp) (by simp [maxLen]) (by simp)
        simpa using this
      go_wp2_with (first
        | ((with_reducible refine law_load 81 (.tmp 11) b (o + k * 18) (c.cells (.slice pA c.parts.length pc)) ?_ hrange Tryd.underlying81 ?_ ?_ ?_); rfl; rfl; exact cmd_info)
        | ((with_reducible refine law_store_fresh 81 (.tmp 5) (.tmp 12) wr 81 _ (c.cells (.slice pA c.parts.length pc)).toArray ?_ ?_ rfl ?_ ?_ (cells_oneCell _ _ _ _) ?_); rfl; rfl; exact cmd_info; rfl)
        | (at_builtin
           refine wpList_append_any _ rfl (.tmp 13) (.tmp 15) 40 rfl (wr.heap.size + 1) 3 i0 _ 1 8 Tryd.underlying40 hi0 hz0 hz1 hz2 rfl (by decide) (.slice (some ⟨wr.heap.size + 1, 0, none⟩) 0 0) 0 [] rfl
             hmade lo hi pA c.parts.length pc (ints c.parts) rfl hsrc (ints_oneCell _) (by have := HP.out; omega) (by have := HP2.out; omega) (by simp) ?_
           intro v1 w1 howna hga hata
           have hb1 : Below (wr.alloc (.cells (c.cells (.slice pA c.parts.length pc)).toArray 81)).heap.size (wr.alloc (.cells (c.cells (.slice pA c.parts.length pc)).toArray 81)) w1 := ((Below.refl _ _).alloc (Nat.le_refl _) _).grown hga (by simp) (fun g hg => by simp [Value.ownBlock] at hg; simp; omega)
           have hown1 : OwnInts w1 (wr.alloc (.cells (c.cells (.slice pA c.parts.length pc)).toArray 81)).heap.size w1.heap.size v1 c.parts := ⟨⟨by simpa using howna, fun g hg => (howna.lt g hg).2⟩, HP2.out⟩
           clear howna hga hata
           obtain ⟨A1, c1, hv1, _⟩ := hown1.1.form
           subst hv1
           have hB1 : Blk w1 wr.heap.size 81 (c.cells (.slice pA c.parts.length pc)).toArray := (Blk.new wr 81 _).below hb1 (by simp)
           have hc15 : w1.cell? ⟨wr.heap.size, 15, none⟩ = some (.slice pA c.parts.length pc) := hB1.cell 15
           have hf15 := hB1.frozen 15
           have hB2 : Blk (w1.setCell ⟨wr.heap.size, 15, none⟩ (.slice A1 c.parts.length c1)) wr.heap.size 81 (c.cells (.slice A1 c.parts.length c1)).toArray := hB1.set_ 15 _
           have hr2 := hB2.range
           have hs1 := hb1.size
           simp only [World.size_alloc] at hs1
           have hownW : ((w1.setCell ⟨wr.heap.size, 15, none⟩ (.slice A1 c.parts.length c1)).alloc (.cells (c.cells (.slice A1 c.parts.length c1)).toArray 81)).ownsRow w.heap.size 81 18 u3 k rows.flatten :=
             (hown.fr (((Fr.of_below (((Below.refl wr.heap.size wr).alloc (Nat.le_refl _) _).trans (hb1.mono (by simp))) (fun _ => False)).setCell (p := ⟨wr.heap.size, 15, none⟩) (.inr (Nat.le_refl _)) _).alloc (by simp; omega) _) (Nat.le_refl _) (fun _ _ _ h => h)).1
           have hrd : Rd ((w1.setCell ⟨wr.heap.size, 15, none⟩ (.slice A1 c.parts.length c1)).alloc (.cells (c.cells (.slice A1 c.parts.length c1)).toArray 81)) 0 (w1.heap.size + 1) 18 (some ⟨(w1.setCell ⟨wr.heap.size, 15, none⟩ (.slice A1 c.parts.length c1)).heap.size, 0, none⟩) 1 (c.cells (.slice A1 c.parts.length c1)) :=
             ⟨rfl, fun _ => ⟨_, rfl, Nat.zero_le _, by simp, fun j u hu => by rw [Addr.add_mid]; exact (Blk.new _ 81 _).range j u hu⟩⟩)
        | ((with_reducible refine law_load 81 (.tmp 5) wr.heap.size 0 (c.cells (.slice A1 c.parts.length c1)) ?_ hr2 Tryd.underlying81 ?_ ?_ ?_); rfl; rfl; exact cmd_info)
        | ((with_reducible refine law_buildSlice1 46 81 (.tmp 19) i1 z1 (c.cells (.slice A1 c.parts.length c1)).toArray 18 ?_ Tryd.underlying46 hi1 hz11 hz12 hz14 ?_ (by decide) (by decide) ?_); rfl; rfl)
        | (at_builtin
           refine wpList_append_any _ rfl (.tmp 18) (.tmp 20) 46 rfl w.heap.size 81 i1 z1 18 184 Tryd.underlying46 hi1 hz11 hz12 hz13 hz14 (by decide) u3 k rows.flatten rfl hownW 0 (w1.heap.size + 1) _ 1 1 (c.cells (.slice A1 c.parts.length c1)) rfl hrd
             (by have := cells_oneCell c A1 c.parts.length c1; simpa using this) (by have := HL.out; have := HC.out; omega) (by have := HB.out; omega) (by simp; omega) ?_
           intro v3 w3 hown3 hg3 hat3)
        | fail)
      have hdone := CopInv.step (cs0 := (c.cells (.slice pA c.parts.length pc)).toArray) hown hrows hbel HLK.out hb1 hown1 hown3 hownW hg3
      clear hown3 hg3 hat3 hownW hrd hB2 hr2 hB1 hc15 hf15 hown1 hb1 hown hrows hbel hrange
      go_wp2
      go_roundw
      case rel => exact ⟨k + 1, by omega, by go_num, hdone⟩
      case measure => simp [intOf]; omega
    · have hkn : k = n := by omega
      subst hkn
      go_wp2
      go_ret
      have hn := HN.out
      rw [hn] at hinv
      exact hinv.done (by rw [← hn]; exact HB.out)
end Go.Proofs.YtnlncfjibbdimaaDoor

namespace Go.Proofs.YtnlncfjibbdimaaDoor
open Go.RowKit
set_option linter.unusedSimpArgs false
set_option linter.unusedVariables false
theorem Blk.notBS {w : World} {k : Nat} {t : TypeId} {cs : Array Value} (h : Blk w k t cs) (ht : t ≠ 5) : ¬ BS w k := by
  rintro ⟨cs', h'⟩
  unfold Blk at h h'
  rw [h] at h'
  injection h' with h'
  injection h' with _ h'
  exact ht h'
/-- What the document's Put answers. -/
def RMPutPost (m : Msg) (w : World) (e : Ending) (w' : World) : Prop :=
  ∃ A c, e = .returned (.slice A (putM m).length c) ∧ OwnB w' w.heap.size (.slice A (putM m).length c) (putM m) ∧ Below w.heap.size w w'
theorem RWritePost.good {l : List Cmd} {w w' : World} {e : Ending} (h : RWritePost l w e w') (hl : l.length ≤ 4096) (hall : ∀ c ∈ l, chkB c = true) :
    ∃ A c, e = .returned (.tuple #[.slice A (sealN (ledN l)).length c, .int .i64 0]) ∧ OwnB w' w.heap.size (.slice A (sealN (ledN l)).length c) (sealN (ledN l)) ∧ Below w.heap.size w w' := by
  obtain ⟨A, c, h1, h2, h3⟩ := h
  rw [wans_good hl hall] at h1 h2
  exact ⟨A, c, h1, h2, h3⟩
/-- The state of the document's loop: x the message, y the row of numbers. -/
structure PInv (w : World) (x y : Nat) (cs : Array Value) (ns : List Int) (bs : List Nat) (v : Value) (W : World) : Prop where
  bel : Below w.heap.size w W
  hx : Blk W x 143 cs
  hy : Blk W y 3 (ints ns).toArray
  own : OwnB W w.heap.size v bs
theorem PInv.app {w W W' : World} {x y : Nat} {cs : Array Value} {ns : List Int} {bs bs' : List Nat} {v v' : Value} (h : PInv w x y cs ns bs v W) (f : BFr w.heap.size W W') (ho : OwnB W' w.heap.size v' bs') : PInv w x y cs ns bs' v' W' :=
  ⟨h.bel.trans f.1, h.hx.fr f.2 h.hx.lt (h.hx.notBS (by decide)), h.hy.fr f.2 h.hy.lt (h.hy.notBS (by decide)), ho⟩
theorem PInv.below {w W W' : World} {x y : Nat} {cs : Array Value} {ns : List Int} {bs : List Nat} {v : Value} (h : PInv w x y cs ns bs v W) (f : Below W.heap.size W W') : PInv w x y cs ns bs v W' :=
  ⟨h.bel.trans (f.mono h.bel.size), h.hx.below f h.hx.lt, h.hy.below f h.hy.lt, h.own.below f (Nat.le_refl _)⟩
set_option maxRecDepth 100000 in
set_option maxHeartbeats 6400000 in
theorem rmput_any (m : Msg) (hc : chkM m = true) (w : World) (lo hi : Nat) (lv fv : Value) (h : MsgAt w lo hi lv fv m) : Calls Tryd.prog 81 #[.agg (m.cells lv fv).toArray] w (RMPutPost m w) := by
  have HCC := Lib.hid (And.intro hc (chkM_nums hc))
  have H0 := Lib.hid h
  clear h hc
  go_enter Tryd.func81, Tryd.ntmps81
  go_upto_region 1 with (fail)
  refine wp_letter (fun W => Below w.heap.size w W ∧ Blk W w.heap.size 143 (m.cells lv fv).toArray) ⟨(Below.refl _ _).alloc (Nat.le_refl _) _, Blk.new w 143 _⟩ ?_
  rintro W ⟨hb, hX⟩
  obtain ⟨x, hx⟩ : ∃ x, x = w.heap.size := ⟨_, rfl⟩
  rw [← hx] at hX ⊢
  have cX := hX.cell
  simp only [Msg.cells] at cX
  obtain ⟨okv, hok⟩ : ∃ okv, okv = m.ok := ⟨_, rfl⟩
  rw [← hok] at cX
  have HB := Lib.hid (And.intro hb (And.intro hX hx))
  have HOK := Lib.hid hok
  clear hb hX hx hok
  go_upto_if 10 with (fail)
  go_cut [3] (fun v wx => v = .int .i64 (if okv = true then 1 else 0) ∧ wx = W)
  case first =>
    cases okv with
    | true =>
      go_wp2_with (fail)
      go_meet
      exact ⟨by simp, rfl⟩
    | false =>
      go_wp2_with (fail)
      go_meet
      exact ⟨by simp, rfl⟩
  case rest =>
    obtain ⟨rfl, rfl⟩ := hcut
    obtain ⟨nk, hnk⟩ : ∃ nk : Int, nk = (if okv = true then 1 else 0) := ⟨_, rfl⟩
    rw [← hnk]
    have HNK := Lib.hid hnk
    clear hnk
    have cA := (HB.out.2.1.alloc (.cells #[] 5)).cell
    simp only [Msg.cells] at cA
    go_upto_region 6 with (fail)
    clear cA
    obtain ⟨ns, hns⟩ : ∃ ns : List Int, ns = [m.kind, m.frm, m.to_, m.tn, m.tb, m.ts, m.br, m.bn, m.ar, m.an, m.xn, m.xb, m.xs, nk] := ⟨_, rfl⟩
    have hnsm : ns = m.nums := by rw [hns, HNK.out, HOK.out]; rfl
    have hlen14 : ns.length = 14 := by rw [hns]; rfl
    refine wp_letter (fun W2 => PInv w x (wc.heap.size + 1) (m.cells lv fv).toArray ns [] (.slice (some ⟨wc.heap.size, 0, none⟩) 0 0) W2)
      ⟨(HB.out.1.alloc HB.out.1.size _).alloc (by have := HB.out.1.size; simp; omega) _, (HB.out.2.1.alloc _).alloc _, by rw [hns]; exact Blk.new1 wc _ 3 _,
        ⟨⟨_, _, rfl⟩, by simp, ⟨rfl, .inr ⟨wc.heap.size, 0, #[], rfl, HB.out.1.size, (Blk.new wc 5 #[]).alloc _, Nat.le_refl _, Nat.zero_le _, rfl, rfl⟩⟩⟩⟩ ?_
    obtain ⟨y, hy⟩ : ∃ y, y = wc.heap.size + 1 := ⟨_, rfl⟩
    obtain ⟨g0, hg0⟩ : ∃ g0, g0 = wc.heap.size := ⟨_, rfl⟩
    rw [← hy, ← hg0]
    rintro W2 hI0
    have HI0 := Lib.hid hI0
    have HNS := Lib.hid (And.intro hnsm hlen14)
    have hIn : ∀ z ∈ ns, inG z := by rw [hnsm]; exact HCC.out.2.1
    have HIN := Lib.hid hIn
    clear hns hnsm hlen14 hIn hI0 hy hg0 cX
    go_loopw [4, 51] (fun out i wr => ∃ (k : Nat) (bs : List Nat) (A' : Option Addr) (c' : Nat), k ≤ 14 ∧ i = .int .i64 k ∧ out = .slice A' bs.length c' ∧ bs = (ns.take k).flatMap encI ∧ PInv w x y (m.cells lv fv).toArray ns bs (.slice A' bs.length c') wr) (fun _ i _ => 14 - (intOf i).toNat)
    case atStart => exact ⟨0, [], _, 0, Nat.zero_le _, rfl, rfl, rfl, HI0.out⟩
    case round =>
      obtain ⟨k, bs, A', c', hk, rfl, rfl, hbs, hI⟩ := hrel
      obtain ⟨mm, hm⟩ : ∃ mm, mm = bs.length := ⟨_, rfl⟩
      have HW := Lib.hid (And.intro hbs (And.intro hI hm))
      rw [← hm]
      clear hbs hI hm
      by_cases hlt : (k : Int) < 14
      · obtain ⟨z, hz⟩ : ∃ z, ns[k]? = some z := ⟨_, List.getElem?_eq_getElem (by have := HNS.out.2; omega)⟩
        have hzG := HIN.out z (List.mem_of_getElem? hz)
        unfold inG at hzG
        have hen := enc_len6 (n := z.toNat) (by omega)
        have hen' : (encI z).length ≤ 6 := hen
        have cy : wr.cell? ⟨y, k, none⟩ = some (.int .i64 z) := by
          rw [HW.out.2.1.hy.cell k]
          simp [ints_getElem?, hz]
        have hle := flatI_le HIN.out k (by have := HNS.out.2; omega)
        have k133 := rnum_int wr z (by omega) (by omega)
        have HK := Lib.hid k133
        have HZ := Lib.hid (And.intro hz (show bs.length + (encI z).length ≤ 140737488355328 by rw [HW.out.1]; omega))
        clear hz hzG hen hen' hle k133
        go_wp2_with (first
          | (go_at_call 133
             refine HK.out.mono ?_
             rintro e w4 ⟨v4, rfl, o4, b4⟩
             obtain ⟨A4, c4, rfl, r4⟩ := o4.rd
             have H4 := Lib.hid (And.intro (HW.out.2.1.below b4) r4)
             clear o4 b4 r4)
          | (at_builtin
             refine law_append8 (.tmp 55) (.tmp 57) w.heap.size wr.heap.size w4.heap.size (.slice A' bs.length c') bs (encI z) A4 c4 rfl rfl (by rw [HW.out.2.2]; rfl) H4.out.1.own rfl H4.out.2 HZ.out.2 H4.out.1.bel.size ?_
             intro A6 c6 W6 o6 f6
             have H6 := Lib.hid (H4.out.1.app f6 o6)
             clear o6 f6)
          | fail)
        go_roundw
        case rel => exact ⟨k + 1, bs ++ encI z, A6, c6, by omega, by go_num, by rw [List.length_append], by rw [HW.out.1]; exact (flatI_take HZ.out.1).symm, by rw [List.length_append]; exact H6.out⟩
        case measure => simp [intOf]; omega
      · have hk14 : (14 : Nat) = k := by omega
        have hbs : bs = m.nums.flatMap encI := by
          have := HW.out.1
          rw [← hk14, List.take_of_length_le (by have := HNS.out.2; omega), HNS.out.1] at this
          exact this
        have HBS := Lib.hid hbs
        have cX := HW.out.2.1.hx.cell
        simp only [Msg.cells] at cX
        have hmr := H0.out.below HW.out.2.1.bel H0.out.hi_
        have k71 := rwrite_any wr lo hi lv m.led hmr.led hmr.hi_ hmr.sz
        have hgl := goodLed_iff.1 HCC.out.2.2.1
        have k71' := k71.mono (fun e w' h => h.good hgl.2 hgl.1)
        obtain ⟨nL, hnL⟩ : ∃ nL, nL = (sealN (ledN m.led)).length := ⟨_, rfl⟩
        rw [← hnL] at k71'
        have HK71 := Lib.hid k71'
        have hlenm : (msgN m).length ≤ 8300000 := msgN_len HCC.out.1
        have hparts : (m.nums.flatMap encI).length + (lpB (sealN (ledN m.led))).length + (lpB m.frame).length = (msgN m).length := by unfold msgN; simp only [List.length_append]
        have HL := Lib.hid (And.intro hnL (And.intro hlenm hparts))
        clear hk14 hbs hmr k71 k71' hgl hnL hlenm hparts hk
        go_upto_region 11 with (first
          | (go_at_call 71
             refine HK71.out.mono ?_
             rintro e w3 ⟨A3, c3, rfl, o3, b3⟩
             have H3 := Lib.hid (And.intro o3 (HW.out.2.1.below b3))
             clear o3 b3)
          | fail)
        have ho3 := H3.out.1
        rw [HL.out.1] at ho3
        obtain ⟨A3', c3', e3, r3⟩ := ho3.rd
        obtain ⟨rfl, _, rfl⟩ : A3 = A3' ∧ True ∧ c3 = c3' := by injection e3 with q1 q2 q3; exact ⟨q1, trivial, q3⟩
        have k111 := rbytes_any w3 wr.heap.size w3.heap.size A3 c3 (sealN (ledN m.led)) r3 (Nat.le_refl _) (by have := HL.out; unfold lpB at this; rw [List.length_append, List.length_append] at this; omega)
        rw [← HL.out.1] at k111
        have HK4 := Lib.hid k111
        clear cX ho3 e3 r3 k111
        go_upto_region 12 with (first
          | (go_at_call 111
             refine HK4.out.mono ?_
             rintro e w4 ⟨v4, rfl, o4, b4⟩
             rw [HL.out.1] at o4
             have o4' : OwnB w4 w3.heap.size v4 (lpB (sealN (ledN m.led))) := o4
             obtain ⟨A4, c4, rfl, r4⟩ := o4'.rd
             have H4 := Lib.hid (And.intro (H3.out.2.below b4) r4)
             clear o4 o4' b4 r4)
          | (at_builtin
             refine law_append8 (.tmp 66) (.tmp 68) w.heap.size w3.heap.size w4.heap.size (.slice A' bs.length c') bs (lpB (sealN (ledN m.led))) A4 c4 rfl rfl (by rw [HW.out.2.2]; rfl) H4.out.1.own rfl H4.out.2 (by rw [HBS.out]; have := HL.out; omega) H4.out.1.bel.size ?_
             intro A5 c5 W5 o5 f5
             have H5 := Lib.hid (H4.out.1.app f5 o5)
             clear o5 f5)
          | fail)
        obtain ⟨n5, hn5⟩ : ∃ n5, n5 = (lpB (sealN (ledN m.led))).length := ⟨_, rfl⟩
        rw [← hn5]
        have cX := H5.out.hx.cell
        simp only [Msg.cells] at cX
        have hm5 := H0.out.below H5.out.bel H0.out.hi_
        obtain ⟨fA, fc, hfv, hf1, hf2, hf3, hf4, hf5, hfr⟩ := hm5.frm
        have k111 := rbytes_any W5 lo hi fA fc m.frame hfr hm5.hi_ (by have := HL.out; unfold lpB at this; rw [List.length_append, List.length_append] at this; omega)
        rw [← hfv] at k111
        have HK6 := Lib.hid k111
        have HF := Lib.hid hf5
        have HN5 := Lib.hid hn5
        clear hm5 hfv hf1 hf2 hf3 hf4 hf5 hfr k111 hn5
        go_wp2_with (first
          | (go_at_call 111
             refine HK6.out.mono ?_
             rintro e w6 ⟨v6, rfl, o6, b6⟩
             have o6' : OwnB w6 W5.heap.size v6 (lpB m.frame) := o6
             obtain ⟨A6, c6, rfl, r6⟩ := o6'.rd
             have H6 := Lib.hid (And.intro (H5.out.below b6) r6)
             clear o6 o6' b6 r6)
          | (at_builtin
             refine law_append8 (.tmp 70) (.tmp 73) w.heap.size W5.heap.size w6.heap.size (.slice A5 (bs.length + (lpB (sealN (ledN m.led))).length) c5) (bs ++ lpB (sealN (ledN m.led))) (lpB m.frame) A6 c6 rfl rfl (by rw [HW.out.2.2, HN5.out]; rfl) H6.out.1.own rfl H6.out.2 (by rw [HBS.out, List.length_append]; have := HL.out; omega) H6.out.1.bel.size ?_
             intro A7 c7 W7 o7 f7
             have h7 := H6.out.1.app f7 o7
             have e7 : bs ++ lpB (sealN (ledN m.led)) ++ lpB m.frame = msgN m := by rw [HBS.out]; rfl
             have n7 : (bs ++ lpB (sealN (ledN m.led))).length + (lpB m.frame).length = (msgN m).length := by rw [← e7]; simp only [List.length_append]
             rw [e7, n7] at h7
             rw [n7]
             obtain ⟨A7', c7', e7', r7⟩ := h7.own.rd
             injection e7' with q1 _ q3
             subst q1 q3
             have k134 := rseal_any W7 W7.heap.size c7 A7 (msgN m) (r7.wider (Nat.zero_le _) (Nat.le_refl _)) (Nat.le_refl _) (by have := HL.out; omega) (msgN_byte HF.out)
             have H7 := Lib.hid h7
             have HK7 := Lib.hid k134
             clear o7 f7 h7 e7 n7 r7 k134)
          | (go_at_call 134
             refine HK7.out.mono ?_
             rintro e w8 ⟨v8, rfl, o8, b8⟩
             have H8 := Lib.hid (And.intro o8 b8)
             clear o8 b8)
          | fail)
        go_ret
        obtain ⟨⟨A8, c8, hv8⟩, ho8⟩ := H8.out.1
        subst hv8
        exact ⟨A8, c8, rfl, ⟨⟨A8, c8, rfl⟩, ho8.1, ownsRow_base ho8.2 H7.out.bel.size⟩, H7.out.bel.trans (H8.out.2.mono H7.out.bel.size)⟩
end Go.Proofs.YtnlncfjibbdimaaDoor
