/-
  PostGets: the walk, off the row's reading of its argument.
-/
import Derived.Deep.RegionHeld3
import Derived.Deep.MidRow
import Derived.Test.YtnlncfjibbdimaaDoorUPWire
import Derived.Test.YtnlncfjibbdimaaDoorUPCheck
import Derived.Test.YtnlncfjibbdimaaDoorURRead
import Derived.Test.YtnlncfjibbdimaaDoorURefWire
import Derived.Test.YtnlncfjibbdimaaDoorUWireX
import Derived.Test.YtnlncfjibbdimaaDoorUSameL
import Derived.Test.YtnlncfjibbdimaaDoorUCheck
import Derived.Test.YtnlncfjibbdimaaDoorUPiece
import Derived.Test.YtnlncfjibbdimaaDoorUKind
import Derived.Test.YtnlncfjibbdimaaDoorULex
import Derived.Test.YtnlncfjibbdimaaDoorUNames5
import Derived.Test.YtnlncfjibbdimaaDoorUBase
import Derived.Test.YtnlncfjibbdimaaDoorULaws
import Derived.Test.YtnlncfjibbdimaaDoorUSameC
import Derived.Test.YtnlncfjibbdimaaDoorURdrA
import Derived.Test.YtnlncfjibbdimaaDoorURdX
import Derived.Test.YtnlncfjibbdimaaDoorUReadX
import Derived.Test.YtnlncfjibbdimaaDoorUGetZ
import Derived.Test.YtnlncfjibbdimaaDoorURdr6
import Derived.Test.YtnlncfjibbdimaaDoorURdr8
import Derived.Test.YtnlncfjibbdimaaDoorUDGet
import Derived.Test.YtnlncfjibbdimaaDoorUInLaw
import Derived.Test.YtnlncfjibbdimaaDoorUInForm
import Derived.Test.YtnlncfjibbdimaaDoorUPGet
import Derived.Test.YtnlncfjibbdimaaDoorUPInAny
import Derived.Test.YtnlncfjibbdimaaDoorUPInA
import Derived.Test.YtnlncfjibbdimaaDoorULedgersW
import Derived.Test.YtnlncfjibbdimaaDoorUPSame
import Derived.Test.YtnlncfjibbdimaaDoorURPut
import Derived.Test.YtnlncfjibbdimaaDoorUPInB
import Derived.Test.YtnlncfjibbdimaaDoorUPInC
import Derived.Test.YtnlncfjibbdimaaDoorUPInD
import Derived.Test.YtnlncfjibbdimaaDoorUPInE
import Derived.Test.YtnlncfjibbdimaaDoorUPInF
import Derived.Test.YtnlncfjibbdimaaDoorUPInG
import Derived.Test.YtnlncfjibbdimaaDoorUPInH
import Derived.Test.YtnlncfjibbdimaaDoorUPInI
import Derived.Test.YtnlncfjibbdimaaDoorUPInJ
import Derived.Test.YtnlncfjibbdimaaDoorUPInK
import Derived.Test.YtnlncfjibbdimaaDoorUPInL
import Derived.Test.YtnlncfjibbdimaaDoorWGetsW
import Derived.Test.YtnlncfjibbdimaaDoorWRefX
import Derived.Test.YtnlncfjibbdimaaDoorWDGet
import Derived.Test.YtnlncfjibbdimaaDoorWPGetO
import Derived.Test.YtnlncfjibbdimaaDoorWRMGet
import Derived.Test.YtnlncfjibbdimaaDoorWRMGetR
namespace Go.Proofs.YtnlncfjibbdimaaDoor
open Go.RowKit
set_option linter.unusedSimpArgs false
set_option linter.unusedVariables false
theorem PPutPost.yes {m : Msg} {a1 : Addr} {w w' : World} {e : Ending} (h : PPutPost m a1 w e w') (hc : chkM m = true) :
    ∃ A c, e = .returned (.tuple #[.slice A (putM m).length c, .nilIface]) ∧ OwnB w' w.heap.size (.slice A (putM m).length c) (putM m) ∧ Below w.heap.size w w' := by
  obtain ⟨hb, ⟨hf, _⟩ | ⟨_, v, rfl, ho⟩⟩ := h
  · rw [hc] at hf; cases hf
  · obtain ⟨A, c, rfl⟩ := ho.1
    exact ⟨A, c, rfl, ho, hb⟩
end Go.Proofs.YtnlncfjibbdimaaDoor

namespace Go.Proofs.YtnlncfjibbdimaaDoor
open Go.RowKit
set_option linter.unusedSimpArgs false
set_option linter.unusedVariables false
theorem num_perr {w : World} {B : Nat} {A : Nat → Addr} (h : Errs w B A G18) (hB : B ≤ w.heap.size) (bs : List Nat) : Calls Tryd.prog 64 #[rerr (A 2) (A 8) (pans bs).1] w (NumPost ((pans bs).1 : Nat) w) := by
  rcases pans_kinds bs with e | ⟨e, _⟩ | ⟨e, _⟩
  · rw [e]; exact num_nil w
  · rw [e]; exact num_any h hB 4 2 rfl
  · rw [e]; exact num_any h hB 5 8 rfl
/-- What holds through the law: the copy's marks, the two messages' blocks. -/
def GPt (w : World) (l2 b c' y z l3 h3 l4 h4 : Nat) (bs : List Nat) (m : Msg) (lv fv lw fw : Value) (W : World) : Prop :=
  Below w.heap.size w W ∧ Marked W 0 b c' bs ∧ Blk W y 143 (m.cells lv fv).toArray ∧ Blk W z 143 (m.cells lw fw).toArray ∧ MsgAt W l3 h3 lv fv m ∧ MsgAt W l4 h4 lw fw m ∧ OwnB W l2 fv m.frame ∧ Rd W 0 l2 1 (some ⟨b, 0, none⟩) bs.length (u8s bs) ∧ l2 ≤ W.heap.size
theorem GPt.below {w W W' : World} {l2 b c' y z l3 h3 l4 h4 : Nat} {bs : List Nat} {m : Msg} {lv fv lw fw : Value} (h : GPt w l2 b c' y z l3 h3 l4 h4 bs m lv fv lw fw W) (f : Below W.heap.size W W') : GPt w l2 b c' y z l3 h3 l4 h4 bs m lv fv lw fw W' :=
  ⟨h.1.trans (f.mono h.1.size), h.2.1.below f, h.2.2.1.below f h.2.2.1.lt, h.2.2.2.1.below f h.2.2.2.1.lt, h.2.2.2.2.1.below f h.2.2.2.2.1.hi_, h.2.2.2.2.2.1.below f h.2.2.2.2.2.1.hi_, h.2.2.2.2.2.2.1.below f (Nat.le_refl _), h.2.2.2.2.2.2.2.1.fr (Fr.of_below f (fun _ => False)) h.2.2.2.2.2.2.2.2 (fun _ _ _ h => h), Nat.le_trans h.2.2.2.2.2.2.2.2 f.size⟩
set_option maxRecDepth 100000 in
set_option maxHeartbeats 6400000 in
theorem pgets_any (w : World) (hi c : Nat) (A : Option Addr) (bs : List Nat) (hr : Rd w 0 hi 1 A bs.length (u8s bs)) (hhi : hi ≤ w.heap.size) (hl : bs.length ≤ 140737488351232) (hc : bs.length ≤ c ∧ c ≤ 9223372036854775807) (hA : A = none → c = 0)
    (h256 : ∀ x ∈ bs, x < 256) (E : Nat → Addr) (hE : Errs w w.heap.size E G18) :
    Calls Tryd.prog 19 #[.slice A bs.length c] w fun e w' => e = .returned (.bool true) ∧ Below w.heap.size w w' := by
  have hG : ∀ W, Below w.heap.size w W → Errs W w.heap.size E G18 := fun W b => hE.fr (Fr.of_below b (fun _ => False)) (Nat.le_refl _) (fun _ _ h => h)
  have hRd : ∀ W, Below w.heap.size w W → Rd W 0 hi 1 A bs.length (u8s bs) := fun W b => hr.fr (Fr.of_below b (fun _ => False)) hhi (fun _ _ _ h => h)
  have H := Lib.hid (And.intro hhi (And.intro hl (And.intro hc (And.intro hA (And.intro h256 (And.intro hG hRd))))))
  obtain ⟨n, hn⟩ : ∃ n, n = bs.length := ⟨_, rfl⟩
  rw [← hn]
  have HN := Lib.hid hn
  have hE0 := hG w (Below.refl _ _)
  have k74 : ∀ W, Below w.heap.size w W → Calls Tryd.prog 74 #[] W fun e w' => e = .returned (.bool true) ∧ Below W.heap.size W w' := fun W b => alive15_any W (E 1) (E 12) ((hG W b).cell 1 (by decide)) ((hG W b).cell 12 (by decide))
  have HK74 := Lib.hid (k74 w (Below.refl _ _))
  clear hr hhi hl hc hA h256 hE hG hRd hn hE0 k74
  go_enter Tryd.func19, Tryd.ntmps19
  go_upto_region 3 with (first | (go_at_call 74; refine HK74.out.mono ?_; rintro e w1 ⟨rfl, b1⟩; have B1 := Lib.hid b1; clear b1) | fail)
  have k49 := nbytes_any w1 0 hi c A bs (H.out.2.2.2.2.2.2 w1 B1.out) (Nat.le_trans H.out.1 B1.out.size) H.out.2.1
  rw [← HN.out] at k49
  have HK49 := Lib.hid k49
  clear k49
  go_upto_region 4 with (first | (go_at_call 49; refine HK49.out.mono ?_; rintro e w2 ⟨b, c', rfl, m2, b2⟩; have H2 := Lib.hid (And.intro m2 (B1.out.trans (b2.mono B1.out.size))); clear m2 b2) | fail)
  have hE2 := H.out.2.2.2.2.2.1 w2 H2.out.2
  have k80 := pget_anyO w2 w2.heap.size c' (some ⟨b, 0, none⟩) bs (H2.out.1.1.take.wider (Nat.zero_le _) (Nat.le_refl _)) (Nat.le_refl _) H.out.2.1 ⟨by have := H2.out.1.2.1; omega, H2.out.1.2.2⟩ H.out.2.2.2.2.1 (E 1) (E 2) (E 8) (hE2.cell 1 (by decide)) (hE2.cell 2 (by decide)) (hE2.cell 8 (by decide))
  rw [← HN.out] at k80
  obtain ⟨m, hm⟩ : ∃ m, m = (pans bs).2 := ⟨_, rfl⟩
  obtain ⟨k, hk⟩ : ∃ k, k = (pans bs).1 := ⟨_, rfl⟩
  obtain ⟨ev, hev⟩ : ∃ ev, ev = rerr (E 2) (E 8) k := ⟨_, rfl⟩
  unfold PGetOwn at k80
  rw [← hm, ← hk, ← hev] at k80
  have HK80 := Lib.hid k80
  have HV := Lib.hid (And.intro hk (And.intro hm hev))
  clear k80 HK49 hE2 hk hm hev
  go_upto_region 5 with (first
    | (go_at_call 80
       refine HK80.out.mono ?_
       rintro e w3 ⟨lv, fv, rfl, m3, b3, o3⟩
       have hone3 := msg_one m3
       have M3 := Lib.hid (And.intro m3 (And.intro b3 (And.intro o3 hone3)))
       clear m3 b3 o3 hone3)
    | ((with_reducible refine law_store_fresh 143 (.tmp 4) (.tmp 16) w3 143 _ (m.cells lv fv).toArray ?_ ?_ rfl ?_ ?_ M3.out.2.2.2 ?_); rfl; rfl; exact msg_info; rfl)
    | fail)
  have bA : Below w3.heap.size w3 (w3.alloc (.cells (m.cells lv fv).toArray 143)) := (Below.refl _ _).alloc (Nat.le_refl _) _
  have bA2 := M3.out.2.1.trans (bA.mono M3.out.2.1.size)
  refine wp_letter (fun W => Below w.heap.size w W ∧ Marked W 0 b c' bs ∧ Blk W w3.heap.size 143 (m.cells lv fv).toArray ∧ MsgAt W w2.heap.size w3.heap.size lv fv m ∧ OwnB W w2.heap.size fv m.frame ∧ Rd W 0 w2.heap.size 1 (some ⟨b, 0, none⟩) bs.length (u8s bs) ∧ w2.heap.size ≤ W.heap.size)
    ⟨H2.out.2.trans (bA2.mono H2.out.2.size), ⟨(H2.out.1.below bA2).1.wider (Nat.zero_le _) (Nat.le_refl _), (H2.out.1.below bA2).2⟩, Blk.new w3 143 _, M3.out.1.below bA (Nat.le_refl _), M3.out.2.2.1.below bA (Nat.le_refl _), (H2.out.1.1.take.wider (Nat.zero_le _) (Nat.le_refl _)).fr (Fr.of_below bA2 (fun _ => False)) (Nat.le_refl _) (fun _ _ _ h => h), bA2.size⟩ ?_
  obtain ⟨y, hy⟩ : ∃ y, y = w3.heap.size := ⟨_, rfl⟩
  rw [← hy]
  clear bA bA2 hy
  rintro W4 hW4
  have H4 := Lib.hid hW4
  have k82 := rmget_any W4 hi c A bs (H.out.2.2.2.2.2.2 W4 hW4.1) (Nat.le_trans H.out.1 hW4.1.size) H.out.2.1 H.out.2.2.1 H.out.2.2.2.1 H.out.2.2.2.2.1
  rw [← HN.out] at k82
  unfold RMGetPost at k82
  rw [← HV.out.2.1, ← HV.out.1] at k82
  have HK82 := Lib.hid k82
  clear hW4 k82 HK80
  go_upto_region 6 with (first
    | (go_at_call 82
       refine HK82.out.mono ?_
       rintro e w5 ⟨lw, fw, rfl, m5, b5⟩
       have hone5 := msg_one m5
       have M5 := Lib.hid (And.intro m5 (And.intro b5 hone5))
       clear m5 b5 hone5)
    | ((with_reducible refine law_store_fresh 143 (.tmp 6) (.tmp 21) w5 143 _ (m.cells lw fw).toArray ?_ ?_ rfl ?_ ?_ M5.out.2.2 ?_); rfl; rfl; exact msg_info; rfl)
    | fail)
  have bA : Below w5.heap.size w5 (w5.alloc (.cells (m.cells lw fw).toArray 143)) := (Below.refl _ _).alloc (Nat.le_refl _) _
  have bA4 := M5.out.2.1.trans (bA.mono M5.out.2.1.size)
  refine wp_letter (fun W => GPt w w2.heap.size b c' y w5.heap.size w2.heap.size y W4.heap.size w5.heap.size bs m lv fv lw fw W)
    ⟨H4.out.1.trans (bA4.mono H4.out.1.size), H4.out.2.1.below bA4, H4.out.2.2.1.below bA4 H4.out.2.2.1.lt, Blk.new w5 143 _, H4.out.2.2.2.1.below bA4 H4.out.2.2.2.1.hi_, M5.out.1.below bA (Nat.le_refl _), H4.out.2.2.2.2.1.below bA4 (Nat.le_refl _), H4.out.2.2.2.2.2.1.fr (Fr.of_below bA4 (fun _ => False)) H4.out.2.2.2.2.2.2 (fun _ _ _ h => h), Nat.le_trans H4.out.2.2.2.2.2.2 bA4.size⟩ ?_
  obtain ⟨z, hz⟩ : ∃ z, z = w5.heap.size := ⟨_, rfl⟩
  rw [← hz]
  clear bA bA4 hz
  rintro W6 hS
  have S6 := Lib.hid hS
  clear hS HK82
  have k64 := num_perr (H.out.2.2.2.2.2.1 W6 S6.out.1) S6.out.1.size bs
  rw [← HV.out.1, ← HV.out.2.2] at k64
  have HK64 := Lib.hid k64
  obtain ⟨CS, hCS⟩ : ∃ CS, CS = m.cells lv fv := ⟨_, rfl⟩
  obtain ⟨DS, hDS⟩ : ∃ DS, DS = m.cells lw fw := ⟨_, rfl⟩
  have HCD := Lib.hid (And.intro hCS hDS)
  clear k64 hCS hDS
  go_upto_region 8 with (first
    | (go_at_call 64
       refine HK64.out.mono ?_
       rintro e w7 ⟨rfl, b7⟩
       have hS7 := S6.out.below b7
       have hry := hS7.2.2.1.range
       have hrz := hS7.2.2.2.1.range
       rw [← HCD.out.1] at hry
       rw [← HCD.out.2] at hrz
       have hly := run_loadVar_mid (P := Tryd.prog) w7 y 0 143 CS _ hry Tryd.underlying143 rfl (by rw [HCD.out.1]; exact msg_info)
       have hlz := run_loadVar_mid (P := Tryd.prog) w7 z 0 143 DS _ hrz Tryd.underlying143 rfl (by rw [HCD.out.2]; exact msg_info)
       have S7 := Lib.hid hS7
       clear b7 hS7 hry hrz
       simp [go_sem] at hly hlz)
    | (go_at_call 78
       have k78 := psame_any m m w7 _ _ _ _ lv fv lw fw S7.out.2.2.2.2.1 S7.out.2.2.2.2.2.1
       rw [tf_true rfl, ← HCD.out.1, ← HCD.out.2] at k78
       refine k78.mono ?_
       rintro e w8 ⟨rfl, b8⟩
       have S8 := Lib.hid (S7.out.below b8)
       clear b8 k78 hly hlz)
    | (go_at_call 51
       have k51 := kept_any w8 _ b c' bs S8.out.2.1 hi c A (H.out.2.2.2.2.2.2 w8 S8.out.1) H.out.2.2.2.1 H.out.2.2.2.2.1 H.out.2.1
       rw [← HN.out] at k51
       refine k51.mono ?_
       rintro e w9 ⟨rfl, b9⟩
       have S9 := Lib.hid (S8.out.below b9)
       clear b9 k51)
    | fail)
  by_cases hk0 : k = 0
  · obtain rfl : ev = .nilIface := by rw [HV.out.2.2, hk0]; rfl
    have hgood := pans_good H.out.2.2.2.2.1 (by rw [← HV.out.1]; exact hk0)
    rw [← HV.out.2.1] at hgood
    have HGD := Lib.hid hgood
    have hE9 := H.out.2.2.2.2.2.1 w9 S9.out.1
    have k77 := pput_any m w9 _ _ lv fv S9.out.2.2.2.2.1 (E 1) (E 12) (hE9.cell 1 (by decide)) (hE9.cell 12 (by decide))
    have HK77 := Lib.hid k77
    have hr9 := S9.out.2.2.1.range
    subst hk0
    clear hgood hE9 k77
    go_upto_region 11 with (first
      | ((with_reducible refine law_load 143 (.tmp 4) y 0 (m.cells lv fv) ?_ hr9 Tryd.underlying143 ?_ ?_ ?_); rfl; rfl; exact msg_info)
      | (go_at_call 77
         refine HK77.out.mono ?_
         rintro e w10 hw
         obtain ⟨A6, c6, rfl, o6, b6⟩ := hw.yes HGD.out.2.1
         rw [HGD.out.1] at o6 ⊢
         have H10 := Lib.hid (And.intro o6 b6)
         clear hw o6 b6)
      | fail)
    have S10 := Lib.hid (S9.out.below H10.out.2)
    have hv1 : (convert 84 9 (.slice A6 bs.length c6)).run Tryd.prog w10 = .ok (.string (textOf bs)) w10 := conv_bytes H.out.2.2.2.2.1 (own_rd H10.out.1) (ownA8 H10.out.1)
    have hv2 : (convert 84 9 (.slice A bs.length c)).run Tryd.prog w10 = .ok (.string (textOf bs)) w10 := conv_bytes H.out.2.2.2.2.1 (H.out.2.2.2.2.2.2 w10 S10.out.1) H.out.2.2.2.1
    obtain ⟨⟨B, cB, hfv⟩, hl4, how⟩ := S10.out.2.2.2.2.2.2.1
    have cF : w10.cell? ⟨y, 15, none⟩ = some fv := by rw [S10.out.2.2.1.cell 15]; rfl
    rw [hfv] at cF how
    have hmk := S10.out.2.1
    have k83 := apart_any w10 0 w2.heap.size w2.heap.size m.frame.length cB c' (some ⟨b, 0, none⟩) B bs (u8s m.frame) S10.out.2.2.2.2.2.2.2.1 (fun h => by cases h) H.out.2.2.2.2.1 (Nat.le_refl _) S10.out.2.2.2.2.2.2.2.2 how (AllU8.u8s _) (chkM_nums HGD.out.2.1).2.2
    obtain ⟨nf, hnf⟩ : ∃ nf, nf = m.frame.length := ⟨_, rfl⟩
    rw [← hnf] at cF k83
    rw [← HN.out] at hv1 hv2 k83 ⊢
    have HK83 := Lib.hid k83
    clear hl4 how hmk k83 hnf hr9
    go_wp2_with (first
      | (go_at_call 83
         refine HK83.out.mono ?_
         rintro e w11 ⟨rfl, b11⟩
         have H11 := Lib.hid b11
         clear b11)
      | fail)
    go_ret
    exact ⟨rfl, S10.out.1.trans (H11.out.mono H2.out.2.size)⟩
  · have hk1 : (¬ (k : Int) = 0) := by omega
    go_wp2_with (fail)
    go_ret
    exact ⟨rfl, S9.out.1⟩
end Go.Proofs.YtnlncfjibbdimaaDoor

namespace Go.Proofs.YtnlncfjibbdimaaDoor
open Go.ChangeShapes Go.WideShapes Go.ChangeAt Go.RowKit Go.Deep
set_option linter.unusedSimpArgs false
set_option linter.unusedVariables false
def sentsPostGets : List (String × Nat × List UInt8) := [("bollard/api.ErrParams", 5, [98, 111, 108, 108, 97, 114, 100, 58, 32, 112, 97, 114, 97, 109, 115]), ("bollard/api.ErrNumber", 0, [98, 111, 108, 108, 97, 114, 100, 58, 32, 110, 117, 109, 98, 101, 114]), ("bollard/api.ErrData", 6, [98, 111, 108, 108, 97, 114, 100, 58, 32, 100, 97, 116, 97]), ("bollard/api.ErrLost", 7, [98, 111, 108, 108, 97, 114, 100, 58, 32, 108, 111, 115, 116]), ("bollard/api.ErrBytes", 2, [98, 111, 108, 108, 97, 114, 100, 58, 32, 98, 121, 116, 101, 115]), ("bollard/api.ErrDigest", 8, [98, 111, 108, 108, 97, 114, 100, 58, 32, 100, 105, 103, 101, 115, 116]), ("bollard/api.ErrName", 9, [98, 111, 108, 108, 97, 114, 100, 58, 32, 110, 97, 109, 101]), ("bollard/api.ErrGone", 10, [98, 111, 108, 108, 97, 114, 100, 58, 32, 103, 111, 110, 101]), ("bollard/api.ErrThere", 11, [98, 111, 108, 108, 97, 114, 100, 58, 32, 116, 104, 101, 114, 101]), ("bollard/api.ErrFull", 4, [98, 111, 108, 108, 97, 114, 100, 58, 32, 102, 117, 108, 108]), ("bollard/api.ErrLarge", 12, [98, 111, 108, 108, 97, 114, 100, 58, 32, 108, 97, 114, 103, 101]), ("bollard/api.ErrBallot", 3, [98, 111, 108, 108, 97, 114, 100, 58, 32, 98, 97, 108, 108, 111, 116]), ("bollard/api.ErrRequest", 13, [98, 111, 108, 108, 97, 114, 100, 58, 32, 114, 101, 113, 117, 101, 115, 116]), ("bollard/api.ErrUri", 14, [98, 111, 108, 108, 97, 114, 100, 58, 32, 117, 114, 105]), ("bollard/api.ErrDenied", 15, [98, 111, 108, 108, 97, 114, 100, 58, 32, 100, 101, 110, 105, 101, 100]), ("bollard/api.ErrSkew", 16, [98, 111, 108, 108, 97, 114, 100, 58, 32, 115, 107, 101, 119]), ("bollard/api.ErrMethod", 17, [98, 111, 108, 108, 97, 114, 100, 58, 32, 109, 101, 116, 104, 111, 100]), ("bollard/api.ErrState", 1, [98, 111, 108, 108, 97, 114, 100, 58, 32, 115, 116, 97, 116, 101])]
theorem sentsPostGets_ok : ∀ x ∈ sentsPostGets, SentOk x := by
  intro x hx
  simp only [sentsPostGets, List.mem_cons, List.not_mem_nil, or_false] at hx
  rcases hx with rfl | rfl | rfl | rfl | rfl | rfl | rfl | rfl | rfl | rfl | rfl | rfl | rfl | rfl | rfl | rfl | rfl | rfl
  · exact ⟨by kernel_rfl, by kernel_rfl⟩
  · exact ⟨by kernel_rfl, by kernel_rfl⟩
  · exact ⟨by kernel_rfl, by kernel_rfl⟩
  · exact ⟨by kernel_rfl, by kernel_rfl⟩
  · exact ⟨by kernel_rfl, by kernel_rfl⟩
  · exact ⟨by kernel_rfl, by kernel_rfl⟩
  · exact ⟨by kernel_rfl, by kernel_rfl⟩
  · exact ⟨by kernel_rfl, by kernel_rfl⟩
  · exact ⟨by kernel_rfl, by kernel_rfl⟩
  · exact ⟨by kernel_rfl, by kernel_rfl⟩
  · exact ⟨by kernel_rfl, by kernel_rfl⟩
  · exact ⟨by kernel_rfl, by kernel_rfl⟩
  · exact ⟨by kernel_rfl, by kernel_rfl⟩
  · exact ⟨by kernel_rfl, by kernel_rfl⟩
  · exact ⟨by kernel_rfl, by kernel_rfl⟩
  · exact ⟨by kernel_rfl, by kernel_rfl⟩
  · exact ⟨by kernel_rfl, by kernel_rfl⟩
  · exact ⟨by kernel_rfl, by kernel_rfl⟩
set_option maxRecDepth 100000 in
theorem postGets_walk : LawWalk 19 Tryd.f19 (sentsPostGets.map (·.2.1)) := by
  intro H enc W base args ds p A hA hval hsz hlt hE
  rw [Tryd.params19] at hA hval hsz
  obtain ⟨v0, vs0, d0, ds0, p0, q0, hargs, rfl, rfl, h0, r0⟩ := trodAll_cons hA
  obtain ⟨rfl, rfl, rfl⟩ := trodAll_nil r0
  obtain rfl : args = #[v0] := by cases args; simp_all
  have hl0 : Light 84 d0 := light_of_each (j := 0) hsz rfl rfl
  have c0 := arg_slice' Tryd.underlying84 (hval 0 84 v0 rfl rfl)
  obtain ⟨f0, h0⟩ := h0
  rw [c0] at h0
  obtain ⟨B, c, bs, hcs, hr, hl, hc, hB, h256⟩ := open_bytes h0 hl0
  injection hcs with hcs _
  subst hcs
  have hG : sentsPostGets.map (·.2.1) = G18 := rfl
  rw [hG] at hE
  exact pgets_any W W.heap.size c B bs hr (Nat.le_refl _) hl hc hB h256 A hE
end Go.Proofs.YtnlncfjibbdimaaDoor
