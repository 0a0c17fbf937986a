/-
  PostPuts: the walk, off the row's reading of its argument.
-/
import Derived.Deep.RegionHeld3
import Derived.Deep.MidRow
import Derived.Test.YtnlncfjibbdimaaDoorUPUnl
import Derived.Test.YtnlncfjibbdimaaDoorUPWire
import Derived.Test.YtnlncfjibbdimaaDoorUPCheck
import Derived.Test.YtnlncfjibbdimaaDoorURRead
import Derived.Test.YtnlncfjibbdimaaDoorURefWire
import Derived.Test.YtnlncfjibbdimaaDoorUWireX
import Derived.Test.YtnlncfjibbdimaaDoorUSameL
import Derived.Test.YtnlncfjibbdimaaDoorUCheck
import Derived.Test.YtnlncfjibbdimaaDoorUPiece
import Derived.Test.YtnlncfjibbdimaaDoorUKind
import Derived.Test.YtnlncfjibbdimaaDoorULex
import Derived.Test.YtnlncfjibbdimaaDoorUNames5
import Derived.Test.YtnlncfjibbdimaaDoorUBase
import Derived.Test.YtnlncfjibbdimaaDoorULaws
import Derived.Test.YtnlncfjibbdimaaDoorUSameC
import Derived.Test.YtnlncfjibbdimaaDoorURdrA
import Derived.Test.YtnlncfjibbdimaaDoorURdX
import Derived.Test.YtnlncfjibbdimaaDoorUReadX
import Derived.Test.YtnlncfjibbdimaaDoorUGetZ
import Derived.Test.YtnlncfjibbdimaaDoorURdr6
import Derived.Test.YtnlncfjibbdimaaDoorURdr8
import Derived.Test.YtnlncfjibbdimaaDoorUDGet
import Derived.Test.YtnlncfjibbdimaaDoorUInLaw
import Derived.Test.YtnlncfjibbdimaaDoorUInForm
import Derived.Test.YtnlncfjibbdimaaDoorUPGet
import Derived.Test.YtnlncfjibbdimaaDoorUPInAny
import Derived.Test.YtnlncfjibbdimaaDoorUPInA
import Derived.Test.YtnlncfjibbdimaaDoorULedgersW
import Derived.Test.YtnlncfjibbdimaaDoorUPSame
import Derived.Test.YtnlncfjibbdimaaDoorURPut
import Derived.Test.YtnlncfjibbdimaaDoorUPInB
import Derived.Test.YtnlncfjibbdimaaDoorUPInC
import Derived.Test.YtnlncfjibbdimaaDoorUPInD
import Derived.Test.YtnlncfjibbdimaaDoorUPInE
import Derived.Test.YtnlncfjibbdimaaDoorUPInF
import Derived.Test.YtnlncfjibbdimaaDoorUPInG
import Derived.Test.YtnlncfjibbdimaaDoorUPInH
import Derived.Test.YtnlncfjibbdimaaDoorUPInI
import Derived.Test.YtnlncfjibbdimaaDoorUPInJ
import Derived.Test.YtnlncfjibbdimaaDoorUPInK
import Derived.Test.YtnlncfjibbdimaaDoorUPInL
import Derived.Test.YtnlncfjibbdimaaDoorVRMPut
import Derived.Test.YtnlncfjibbdimaaDoorVPCopied
namespace Go.Proofs.YtnlncfjibbdimaaDoor
open Go.RowKit
set_option linter.unusedSimpArgs false
set_option linter.unusedVariables false
theorem wpAnyH_weak {P : Program} {md : Region.Mode} {ops : Array Oper} {Q : Exit → Act → World → Prop} {S S' : World → Prop} (h : ∀ w, S' w → S w) : ∀ (fuel : Nat) (listed : Array Bool) (a : Act) (w : World), wpAnyH P md ops Q S' fuel listed a w → wpAnyH P md ops Q S fuel listed a w
  | 0, _, _, _, h' => h'
  | fuel + 1, _, _, _, h' => ⟨h'.1, fun i hi => wpOp_mono (fun a' w' hh => ⟨h w' hh.1, wpAnyH_weak h fuel _ a' w' hh.2⟩) (h'.2 i hi)⟩
/-- What holds through the law: the message's own block x, its copy's block z. -/
def PSt (w : World) (x z lo : Nat) (m : Msg) (lv fv lv' fv' : Value) (W : World) : Prop := Below w.heap.size w W ∧ Blk W x 143 (m.cells lv fv).toArray ∧ Blk W z 143 (m.cells lv' fv').toArray ∧ MsgAt W lo z lv' fv' m
theorem PSt.below {w W W' : World} {x z lo : Nat} {m : Msg} {lv fv lv' fv' : Value} (h : PSt w x z lo m lv fv lv' fv' W) (f : Below W.heap.size W W') : PSt w x z lo m lv fv lv' fv' W' :=
  ⟨h.1.trans (f.mono h.1.size), h.2.1.below f h.2.1.lt, h.2.2.1.below f h.2.2.1.lt, h.2.2.2.below f h.2.2.2.hi_⟩
set_option maxRecDepth 100000 in
set_option maxHeartbeats 6400000 in
theorem pputs_any (m : Msg) (w : World) (lo1 hi1 : Nat) (lv fv : Value) (ha : MsgAt w lo1 hi1 lv fv m) (a1 a2 a8 a12 : Addr)
    (h1 : w.cell? ⟨1, 0, none⟩ = some (errv a1)) (h2 : w.cell? ⟨2, 0, none⟩ = some (errv a2)) (h8 : w.cell? ⟨8, 0, none⟩ = some (errv a8)) (h12 : w.cell? ⟨12, 0, none⟩ = some (errv a12)) :
    Calls Tryd.prog 18 #[.agg (m.cells lv fv).toArray] w fun e w' => e = .returned (.bool true) ∧ Below w.heap.size w w' := by
  have HG := Lib.hid (show ∀ W, Below w.heap.size w W → W.cell? ⟨1, 0, none⟩ = some (errv a1) ∧ W.cell? ⟨2, 0, none⟩ = some (errv a2) ∧ W.cell? ⟨8, 0, none⟩ = some (errv a8) ∧ W.cell? ⟨12, 0, none⟩ = some (errv a12) from
    fun W b => ⟨(b.cell (World.block_lt_of_cell? w _ h1)).trans h1, (b.cell (World.block_lt_of_cell? w _ h2)).trans h2, (b.cell (World.block_lt_of_cell? w _ h8)).trans h8, (b.cell (World.block_lt_of_cell? w _ h12)).trans h12⟩)
  have HM := Lib.hid (show ∀ W, Below w.heap.size w W → MsgAt W 0 w.heap.size lv fv m from fun W f => (ha.below f ha.hi_).wider (Nat.zero_le _) ha.hi_ f.size)
  have HBY := Lib.hid ha.bytes
  clear ha h1 h2 h8 h12
  go_enter Tryd.func18, Tryd.ntmps18
  go_upto_region 1 with (fail)
  refine wp_letter (fun W => Below w.heap.size w W ∧ Blk W w.heap.size 143 (m.cells lv fv).toArray) ⟨(Below.refl _ _).alloc (Nat.le_refl _) _, Blk.new w 143 _⟩ ?_
  rintro W ⟨hb, hX⟩
  have k74 := alive15_any W a1 a12 (HG.out W hb).1 (HG.out W hb).2.2.2
  obtain ⟨x, hx⟩ : ∃ x, x = w.heap.size := ⟨_, rfl⟩
  rw [← hx] at hX ⊢
  have H0 := Lib.hid (And.intro hb hX)
  have HK74 := Lib.hid k74
  clear hb hX k74 hx
  go_upto_region 3 with (first | (go_at_call 74; refine HK74.out.mono ?_; rintro e w1 ⟨rfl, b1⟩; have H1 := Lib.hid (And.intro (H0.out.1.trans (b1.mono H0.out.1.size)) (H0.out.2.below b1 H0.out.2.lt)); clear b1) | fail)
  have hrx1 := H1.out.2.range
  have k75 := copied15_any m w1 0 w.heap.size lv fv (HM.out w1 H1.out.1)
  have HK75 := Lib.hid k75
  clear k75 HK74
  go_upto_region 4 with (first
    | ((with_reducible refine law_load 143 (.tmp 1) x 0 (m.cells lv fv) ?_ hrx1 Tryd.underlying143 ?_ ?_ ?_); rfl; rfl; exact msg_info)
    | (go_at_call 75
       refine HK75.out.mono ?_
       rintro e w2 ⟨lv', fv', rfl, m2, b2⟩
       have hone2 := msg_one m2
       have M2 := Lib.hid (And.intro m2 (And.intro b2 hone2))
       clear m2 b2 hone2)
    | ((with_reducible refine law_store_fresh 143 (.tmp 3) (.tmp 12) w2 143 _ (m.cells lv' fv').toArray ?_ ?_ rfl ?_ ?_ M2.out.2.2 ?_); rfl; rfl; exact msg_info; rfl)
    | fail)
  have bA : Below w2.heap.size w2 (w2.alloc (.cells (m.cells lv' fv').toArray 143)) := (Below.refl w2.heap.size w2).alloc (Nat.le_refl _) _
  have hb2 := H1.out.1.trans (M2.out.2.1.mono H1.out.1.size)
  refine wp_letter (fun W => PSt w x w2.heap.size w1.heap.size m lv fv lv' fv' W)
    ⟨hb2.trans (bA.mono hb2.size), (H1.out.2.below M2.out.2.1 H1.out.2.lt).alloc _, Blk.new w2 143 _, M2.out.1.below bA (Nat.le_refl _)⟩ ?_
  obtain ⟨z, hz⟩ : ∃ z, z = w2.heap.size := ⟨_, rfl⟩
  rw [← hz]
  clear bA hb2 hz hrx1
  rintro W4 hS
  have S4 := Lib.hid hS
  clear hS
  have hrx4 := S4.out.2.1.range
  have hrz4 := S4.out.2.2.1.range
  have k76 := pcheck_any m W4 w1.heap.size z lv' fv' S4.out.2.2.2 a1 (HG.out W4 S4.out.1).1
  cases hc : chkM m with
  | false =>
    rw [hc] at k76
    have HC := Lib.hid hc
    have HK76 := Lib.hid k76
    clear k76 hc
    go_upto_region 5 with (first | ((with_reducible refine law_load 143 (.tmp 3) z 0 (m.cells lv' fv') ?_ hrz4 Tryd.underlying143 ?_ ?_ ?_); rfl; rfl; exact msg_info) | (go_at_call 76; refine HK76.out.mono ?_; rintro e w5 ⟨rfl, b5⟩; have S5 := Lib.hid (S4.out.below b5); clear b5) | fail)
    have hrx5 := S5.out.2.1.range
    have hrz5 := S5.out.2.2.1.range
    have k77 := pput_any m w5 w1.heap.size z lv' fv' S5.out.2.2.2 a1 a12 (HG.out w5 S5.out.1).1 (HG.out w5 S5.out.1).2.2.2
    have HK77 := Lib.hid k77
    clear k77 hrx4 hrz4
    go_upto_region 6 with (first | ((with_reducible refine law_load 143 (.tmp 3) z 0 (m.cells lv' fv') ?_ hrz5 Tryd.underlying143 ?_ ?_ ?_); rfl; rfl; exact msg_info) | (go_at_call 77; refine HK77.out.mono ?_; rintro e w6 hp6; obtain ⟨rfl, b6⟩ := hp6.no HC.out; have S6 := Lib.hid (S5.out.below b6); clear hp6 b6) | fail)
    have hrx6 := S6.out.2.1.range
    have hrz6 := S6.out.2.2.1.range
    have k78 := psame_any m m w6 w1.heap.size z 0 w.heap.size lv' fv' lv fv S6.out.2.2.2 (HM.out w6 S6.out.1)
    rw [tf_true rfl] at k78
    have HK78 := Lib.hid k78
    clear k78 hrx5 hrz5
    go_upto_region 8 with (first | ((with_reducible refine law_load 143 (.tmp 3) z 0 (m.cells lv' fv') ?_ hrz6 Tryd.underlying143 ?_ ?_ ?_); rfl; rfl; exact msg_info) | ((with_reducible refine law_load 143 (.tmp 1) x 0 (m.cells lv fv) ?_ hrx6 Tryd.underlying143 ?_ ?_ ?_); rfl; rfl; exact msg_info) | (go_at_call 78; refine HK78.out.mono ?_; rintro e w7 ⟨rfl, b7⟩; have S7 := Lib.hid (S6.out.below b7); have B7 := Lib.hid b7; clear b7) | fail)
    have hrx7 := S7.out.2.1.range
    have hrz7 := S7.out.2.2.1.range
    have k79 := pin_any m w7 0 w.heap.size lv fv (HM.out w7 S7.out.1)
    rw [HC.out] at k79
    have HK79 := Lib.hid k79
    clear k79 hrx6 hrz6
    go_upto_region 9 with (first | ((with_reducible refine law_load 143 (.tmp 1) x 0 (m.cells lv fv) ?_ hrx7 Tryd.underlying143 ?_ ?_ ?_); rfl; rfl; exact msg_info) | (go_at_call 79; refine HK79.out.mono ?_; rintro e w8 ⟨rfl, b8⟩; have S8 := Lib.hid (S7.out.below b8); have B8 := Lib.hid b8; clear b8) | fail)
    clear hrx7 hrz7
    have cE := (HG.out w8 S8.out.1).1
    have hee := errEq_same a1
    go_wp2_with (fail)
    go_ret
    exact ⟨rfl, S8.out.1⟩
  | true =>
    rw [hc] at k76
    have HC := Lib.hid hc
    have HK76 := Lib.hid k76
    clear k76 hc
    go_upto_region 5 with (first | ((with_reducible refine law_load 143 (.tmp 3) z 0 (m.cells lv' fv') ?_ hrz4 Tryd.underlying143 ?_ ?_ ?_); rfl; rfl; exact msg_info) | (go_at_call 76; refine HK76.out.mono ?_; rintro e w5 ⟨rfl, b5⟩; have S5 := Lib.hid (S4.out.below b5); clear b5) | fail)
    have hrx5 := S5.out.2.1.range
    have hrz5 := S5.out.2.2.1.range
    have k77 := pput_any m w5 w1.heap.size z lv' fv' S5.out.2.2.2 a1 a12 (HG.out w5 S5.out.1).1 (HG.out w5 S5.out.1).2.2.2
    have HK77 := Lib.hid k77
    clear k77 hrx4 hrz4
    go_upto_region 6 with (first | ((with_reducible refine law_load 143 (.tmp 3) z 0 (m.cells lv' fv') ?_ hrz5 Tryd.underlying143 ?_ ?_ ?_); rfl; rfl; exact msg_info) | (go_at_call 77; refine HK77.out.mono ?_; rintro e w6 hp6; obtain ⟨A6, c6, rfl, o6, b6⟩ := hp6.yes HC.out; have S6 := Lib.hid (S5.out.below b6); have O6 := Lib.hid (And.intro o6 b6); clear hp6 o6 b6) | fail)
    have hrx6 := S6.out.2.1.range
    have hrz6 := S6.out.2.2.1.range
    have k78 := psame_any m m w6 w1.heap.size z 0 w.heap.size lv' fv' lv fv S6.out.2.2.2 (HM.out w6 S6.out.1)
    rw [tf_true rfl] at k78
    have HK78 := Lib.hid k78
    clear k78 hrx5 hrz5
    go_upto_region 8 with (first | ((with_reducible refine law_load 143 (.tmp 3) z 0 (m.cells lv' fv') ?_ hrz6 Tryd.underlying143 ?_ ?_ ?_); rfl; rfl; exact msg_info) | ((with_reducible refine law_load 143 (.tmp 1) x 0 (m.cells lv fv) ?_ hrx6 Tryd.underlying143 ?_ ?_ ?_); rfl; rfl; exact msg_info) | (go_at_call 78; refine HK78.out.mono ?_; rintro e w7 ⟨rfl, b7⟩; have S7 := Lib.hid (S6.out.below b7); have B7 := Lib.hid b7; clear b7) | fail)
    have hrx7 := S7.out.2.1.range
    have hrz7 := S7.out.2.2.1.range
    have k79 := pin_any m w7 0 w.heap.size lv fv (HM.out w7 S7.out.1)
    rw [HC.out] at k79
    have HK79 := Lib.hid k79
    clear k79 hrx6 hrz6
    go_upto_region 10 with (first | ((with_reducible refine law_load 143 (.tmp 1) x 0 (m.cells lv fv) ?_ hrx7 Tryd.underlying143 ?_ ?_ ?_); rfl; rfl; exact msg_info) | (go_at_call 79; refine HK79.out.mono ?_; rintro e w8 ⟨rfl, b8⟩; have S8 := Lib.hid (S7.out.below b8); have B8 := Lib.hid b8; clear b8) | fail)
    clear hrx7 hrz7
    have b68 := B7.out.trans (B8.out.mono B7.out.size)
    have hrd8 : Rd w8 0 w8.heap.size 1 A6 (putM m).length (u8s (putM m)) := ((own_rd O6.out.1).fr (Fr.of_below b68 (fun _ => False)) (Nat.le_refl _) (fun _ _ _ h => h)).wider (Nat.zero_le _) b68.size
    have k80 := pget_any w8 w8.heap.size c6 A6 (putM m) hrd8 (Nat.le_refl _) (Nat.le_trans (putM_len HC.out) (by decide)) (own_cap O6.out.1) HBY.out a1 a2 a8 (HG.out w8 S8.out.1).1 (HG.out w8 S8.out.1).2.1 (HG.out w8 S8.out.1).2.2.1
    have HK80 := Lib.hid k80
    have HRD := Lib.hid hrd8
    clear k80 b68 hrd8
    go_upto_region 11 with (first
      | (go_at_call 80
         refine HK80.out.mono ?_
         rintro e w9 hg9
         obtain ⟨lw, fw, rfl, m9, b9⟩ := hg9.ok HC.out
         have hone9 := msg_one m9
         have S9 := Lib.hid (S8.out.below b9)
         have M9 := Lib.hid (And.intro m9 (And.intro b9 hone9))
         clear hg9 m9 b9 hone9)
      | ((with_reducible refine law_store_fresh 143 (.tmp 7) (.tmp 43) w9 143 _ (m.cells lw fw).toArray ?_ ?_ rfl ?_ ?_ M9.out.2.2 ?_); rfl; rfl; exact msg_info; rfl)
      | fail)
    have bA : Below w9.heap.size w9 (w9.alloc (.cells (m.cells lw fw).toArray 143)) := (Below.refl w9.heap.size w9).alloc (Nat.le_refl _) _
    have bA8 := M9.out.2.1.trans (bA.mono M9.out.2.1.size)
    refine wp_letter (fun W => PSt w x z w1.heap.size m lv fv lv' fv' W ∧ Blk W w9.heap.size 143 (m.cells lw fw).toArray ∧ MsgAt W w8.heap.size w9.heap.size lw fw m ∧ Rd W 0 W.heap.size 1 A6 (putM m).length (u8s (putM m)))
      ⟨S9.out.below bA, Blk.new w9 143 _, M9.out.1.below bA (Nat.le_refl _), (HRD.out.fr (Fr.of_below bA8 (fun _ => False)) (Nat.le_refl _) (fun _ _ _ h => h)).wider (Nat.zero_le _) bA8.size⟩ ?_
    obtain ⟨y, hy⟩ : ∃ y, y = w9.heap.size := ⟨_, rfl⟩
    rw [← hy]
    clear bA bA8 hy
    rintro W7 ⟨hS7, hY7, hM7, hX7⟩
    have V1 : ∀ w', Below W7.heap.size W7 w' → (convert 84 9 (.slice A6 (putM m).length c6)).run Tryd.prog w' = .ok (.string (textOf (putM m))) w' := fun w' f =>
      conv_bytes HBY.out (hX7.fr (Fr.of_below f (fun _ => False)) (Nat.le_refl _) (fun _ _ _ h => h)) (ownA8 O6.out.1)
    have RY : ∀ w', Below W7.heap.size W7 w' → w'.rangeAt y 0 (m.cells lw fw) := fun w' f => (hY7.below f hY7.lt).range
    have RX : ∀ w', Below W7.heap.size W7 w' → w'.rangeAt x 0 (m.cells lv fv) := fun w' f => (hS7.2.1.below f hS7.2.1.lt).range
    have K1 : ∀ w', Below W7.heap.size W7 w' → Calls Tryd.prog 81 #[.agg (m.cells lv fv).toArray] w' (RMPutPost m w') := fun w' f => rmput_any m HC.out w' 0 w.heap.size lv fv (HM.out w' (hS7.1.trans (f.mono hS7.1.size)))
    have K2 : ∀ w', Below W7.heap.size W7 w' → Calls Tryd.prog 78 #[.agg (m.cells lw fw).toArray, .agg (m.cells lv fv).toArray] w' (YesNo true w') := fun w' f => by
      have k := psame_any m m w' _ _ 0 w.heap.size lw fw lv fv (hM7.below f hM7.hi_) (HM.out w' (hS7.1.trans (f.mono hS7.1.size)))
      rw [tf_true rfl] at k
      exact k
    have HV := Lib.hid (And.intro V1 (And.intro RY (And.intro RX (And.intro K1 K2))))
    have S7x := Lib.hid hS7
    clear V1 RY RX K1 K2 hS7 hY7 hM7 hX7
    have hSe : Below W7.heap.size W7 W7.drew := (Below.refl W7.heap.size W7).drew
    refine wp_region_held_drew (S := fun w' => Below W7.heap.size W7 w') (by kernel_rfl) hSe (fun _ => ?_)
    refine wpAnyH_take (i := 0) (v := .nilIface) rfl (by kernel_rfl) (by kernel_rfl) (by kernel_rfl) (fun _ _ _ h => h) (Or.inl ⟨by kernel_rfl, fun w' hSw => ?_⟩) hSe ?_
    · go_simp
    simp only [List.getElem_toArray, List.getElem_cons_succ, List.getElem_cons_zero, Act.put, List.setIfInBounds_toArray, List.set_cons_zero, List.set_cons_succ]
    refine wpAnyH_take (i := 1) (v := .bool true) rfl (by kernel_rfl) (by kernel_rfl) (by kernel_rfl) (fun _ _ _ h => h) (Or.inl ⟨by kernel_rfl, fun w' hSw => ?_⟩) hSe ?_
    · go_simp
    simp only [List.getElem_toArray, List.getElem_cons_succ, List.getElem_cons_zero, Act.put, List.setIfInBounds_toArray, List.set_cons_zero, List.set_cons_succ]
    refine wpAnyH_take (i := 2) (v := .bool true) rfl (by kernel_rfl) (by kernel_rfl) (by kernel_rfl) (fun _ _ _ h => h) (Or.inl ⟨by kernel_rfl, fun w' hSw => ?_⟩) hSe ?_
    · go_simp
    simp only [List.getElem_toArray, List.getElem_cons_succ, List.getElem_cons_zero, Act.put, List.setIfInBounds_toArray, List.set_cons_zero, List.set_cons_succ]
    refine wpAnyH_take (i := 3) (v := .nilIface) rfl (by kernel_rfl) (by kernel_rfl) (by kernel_rfl) (fun _ _ _ h => h) (Or.inl ⟨by kernel_rfl, fun w' hSw => ?_⟩) hSe ?_
    · go_simp
    simp only [List.getElem_toArray, List.getElem_cons_succ, List.getElem_cons_zero, Act.put, List.setIfInBounds_toArray, List.set_cons_zero, List.set_cons_succ]
    refine wpAnyH_take (i := 4) (v := .bool true) rfl (by kernel_rfl) (by kernel_rfl) (by kernel_rfl) (fun _ _ _ h => h) (Or.inl ⟨by kernel_rfl, fun w' hSw => ?_⟩) hSe ?_
    · go_simp
    simp only [List.getElem_toArray, List.getElem_cons_succ, List.getElem_cons_zero, Act.put, List.setIfInBounds_toArray, List.set_cons_zero, List.set_cons_succ]
    refine wpAnyH_take (i := 5) (v := .bool true) rfl (by kernel_rfl) (by kernel_rfl) (by kernel_rfl) (fun _ _ _ h => h) (Or.inl ⟨by kernel_rfl, fun w' hSw => ?_⟩) hSe ?_
    · go_simp
    simp only [List.getElem_toArray, List.getElem_cons_succ, List.getElem_cons_zero, Act.put, List.setIfInBounds_toArray, List.set_cons_zero, List.set_cons_succ]
    refine wpAnyH_take (i := 6) (v := .bool true) rfl (by kernel_rfl) (by kernel_rfl) (by kernel_rfl) (fun _ _ _ h => h) (Or.inl ⟨by kernel_rfl, fun w' hSw => ?_⟩) hSe ?_
    · go_simp
    simp only [List.getElem_toArray, List.getElem_cons_succ, List.getElem_cons_zero, Act.put, List.setIfInBounds_toArray, List.set_cons_zero, List.set_cons_succ]
    refine wpAnyH_take (i := 7) (v := .slice A6 (putM m).length c6) rfl (by kernel_rfl) (by kernel_rfl) (by kernel_rfl) (fun _ _ _ h => h) (Or.inl ⟨by kernel_rfl, fun w' hSw => ?_⟩) hSe ?_
    · go_simp
    simp only [List.getElem_toArray, List.getElem_cons_succ, List.getElem_cons_zero, Act.put, List.setIfInBounds_toArray, List.set_cons_zero, List.set_cons_succ]
    refine wpAnyH_take (i := 8) (v := .string (textOf (putM m))) rfl (by kernel_rfl) (by kernel_rfl) (by kernel_rfl) (fun _ _ _ h => h) (Or.inl ⟨by kernel_rfl, fun w' hSw => ?_⟩) hSe ?_
    · (have hcx := HV.out.1 w' hSw; go_simp)
    simp only [List.getElem_toArray, List.getElem_cons_succ, List.getElem_cons_zero, Act.put, List.setIfInBounds_toArray, List.set_cons_zero, List.set_cons_succ]
    refine wpAnyH_take (i := 9) (v := .agg (m.cells lv fv).toArray) rfl (by kernel_rfl) (by kernel_rfl) (by kernel_rfl) (fun _ _ _ h => h) ?_ hSe ?_
    · refine yieldsIf_load_mid ?_ 143 (.tmp 1) ?_ x 0 ?_ (m.cells lv fv) _ (fun w' h => HV.out.2.2.1 w' h) Tryd.underlying143 ?_ msg_info
      · kernel_rfl
      · rfl
      · kernel_rfl
      · rfl
    simp only [List.getElem_toArray, List.getElem_cons_succ, List.getElem_cons_zero, Act.put, List.setIfInBounds_toArray, List.set_cons_zero, List.set_cons_succ]
    refine wpAnyH_ready (rs := [10]) (by kernel_rfl) (by simp) ?_
    refine AllReadyH.cons rfl (fun K hK => ?_) AllReadyH.nil
    go_simp
    refine (HV.out.2.2.2.1 _ hSe).mono ?_
    rintro e w11 ⟨A11, c11, rfl, o11, b11⟩
    have hSf := hSe.trans (b11.mono hSe.size)
    refine Shut.out hK _ _ hSf (fun _ => ?_)
    clear hK K
    refine wpAnyH_weak (S' := fun w' => Below w11.heap.size w11 w') (fun w' h => hSf.trans (h.mono hSf.size)) _ _ _ _ ?_
    have V2 : ∀ w', Below w11.heap.size w11 w' → (convert 84 9 (.slice A11 (putM m).length c11)).run Tryd.prog w' = .ok (.string (textOf (putM m))) w' := fun w' f =>
      conv_bytes HBY.out ((own_rd o11).fr (Fr.of_below f (fun _ => False)) (Nat.le_refl _) (fun _ _ _ h => h)) (ownA8 o11)
    have U1 : ∀ w', Below w11.heap.size w11 w' → Below W7.heap.size W7 w' := fun w' h => hSf.trans (h.mono hSf.size)
    have RY2 : ∀ w', Below w11.heap.size w11 w' → w'.rangeAt y 0 (m.cells lw fw) := fun w' h => HV.out.2.1 w' (U1 w' h)
    have RX2 : ∀ w', Below w11.heap.size w11 w' → w'.rangeAt x 0 (m.cells lv fv) := fun w' h => HV.out.2.2.1 w' (U1 w' h)
    have K3 : ∀ w', Below w11.heap.size w11 w' → Calls Tryd.prog 78 #[.agg (m.cells lw fw).toArray, .agg (m.cells lv fv).toArray] w' (YesNo true w') := fun w' h => HV.out.2.2.2.2 w' (U1 w' h)
    have HW := Lib.hid (And.intro V2 (And.intro RY2 (And.intro RX2 (And.intro K3 U1))))
    clear V2 U1 RY2 RX2 K3 o11 b11 hSf
    have hSg : Below w11.heap.size w11 w11 := Below.refl _ _
    refine wpAnyH_take (i := 11) (v := .string (textOf (putM m))) rfl (by kernel_rfl) (by kernel_rfl) (by kernel_rfl) (fun _ _ _ h => h) (Or.inl ⟨by kernel_rfl, fun w' hSw => ?_⟩) hSg ?_
    · (have hcx := HW.out.1 w' hSw; go_simp)
    simp only [List.getElem_toArray, List.getElem_cons_succ, List.getElem_cons_zero, Act.put, List.setIfInBounds_toArray, List.set_cons_zero, List.set_cons_succ]
    refine wpAnyH_take (i := 12) (v := .bool true) rfl (by kernel_rfl) (by kernel_rfl) (by kernel_rfl) (fun _ _ _ h => h) (Or.inl ⟨by kernel_rfl, fun w' hSw => ?_⟩) hSg ?_
    · go_simp
    simp only [List.getElem_toArray, List.getElem_cons_succ, List.getElem_cons_zero, Act.put, List.setIfInBounds_toArray, List.set_cons_zero, List.set_cons_succ]
    refine wpAnyH_take (i := 13) (v := .bool true) rfl (by kernel_rfl) (by kernel_rfl) (by kernel_rfl) (fun _ _ _ h => h) (Or.inl ⟨by kernel_rfl, fun w' hSw => ?_⟩) hSg ?_
    · go_simp
    simp only [List.getElem_toArray, List.getElem_cons_succ, List.getElem_cons_zero, Act.put, List.setIfInBounds_toArray, List.set_cons_zero, List.set_cons_succ]
    refine wpAnyH_take (i := 14) (v := .bool true) rfl (by kernel_rfl) (by kernel_rfl) (by kernel_rfl) (fun _ _ _ h => h) (Or.inl ⟨by kernel_rfl, fun w' hSw => ?_⟩) hSg ?_
    · go_simp
    simp only [List.getElem_toArray, List.getElem_cons_succ, List.getElem_cons_zero, Act.put, List.setIfInBounds_toArray, List.set_cons_zero, List.set_cons_succ]
    refine wpAnyH_take (i := 15) (v := .nilIface) rfl (by kernel_rfl) (by kernel_rfl) (by kernel_rfl) (fun _ _ _ h => h) (Or.inl ⟨by kernel_rfl, fun w' hSw => ?_⟩) hSg ?_
    · go_simp
    simp only [List.getElem_toArray, List.getElem_cons_succ, List.getElem_cons_zero, Act.put, List.setIfInBounds_toArray, List.set_cons_zero, List.set_cons_succ]
    refine wpAnyH_take (i := 16) (v := .bool true) rfl (by kernel_rfl) (by kernel_rfl) (by kernel_rfl) (fun _ _ _ h => h) (Or.inl ⟨by kernel_rfl, fun w' hSw => ?_⟩) hSg ?_
    · go_simp
    simp only [List.getElem_toArray, List.getElem_cons_succ, List.getElem_cons_zero, Act.put, List.setIfInBounds_toArray, List.set_cons_zero, List.set_cons_succ]
    refine wpAnyH_take (i := 17) (v := .bool true) rfl (by kernel_rfl) (by kernel_rfl) (by kernel_rfl) (fun _ _ _ h => h) (Or.inl ⟨by kernel_rfl, fun w' hSw => ?_⟩) hSg ?_
    · go_simp
    simp only [List.getElem_toArray, List.getElem_cons_succ, List.getElem_cons_zero, Act.put, List.setIfInBounds_toArray, List.set_cons_zero, List.set_cons_succ]
    refine wpAnyH_take (i := 18) (v := .bool true) rfl (by kernel_rfl) (by kernel_rfl) (by kernel_rfl) (fun _ _ _ h => h) (Or.inl ⟨by kernel_rfl, fun w' hSw => ?_⟩) hSg ?_
    · go_simp
    simp only [List.getElem_toArray, List.getElem_cons_succ, List.getElem_cons_zero, Act.put, List.setIfInBounds_toArray, List.set_cons_zero, List.set_cons_succ]
    refine wpAnyH_take (i := 19) (v := .agg (m.cells lw fw).toArray) rfl (by kernel_rfl) (by kernel_rfl) (by kernel_rfl) (fun _ _ _ h => h) ?_ hSg ?_
    · refine yieldsIf_load_mid ?_ 143 (.tmp 7) ?_ y 0 ?_ (m.cells lw fw) _ (fun w' h => HW.out.2.1 w' h) Tryd.underlying143 ?_ msg_info
      · kernel_rfl
      · rfl
      · kernel_rfl
      · rfl
    simp only [List.getElem_toArray, List.getElem_cons_succ, List.getElem_cons_zero, Act.put, List.setIfInBounds_toArray, List.set_cons_zero, List.set_cons_succ]
    refine wpAnyH_take (i := 20) (v := .agg (m.cells lv fv).toArray) rfl (by kernel_rfl) (by kernel_rfl) (by kernel_rfl) (fun _ _ _ h => h) ?_ hSg ?_
    · refine yieldsIf_load_mid ?_ 143 (.tmp 1) ?_ x 0 ?_ (m.cells lv fv) _ (fun w' h => HW.out.2.2.1 w' h) Tryd.underlying143 ?_ msg_info
      · kernel_rfl
      · rfl
      · kernel_rfl
      · rfl
    simp only [List.getElem_toArray, List.getElem_cons_succ, List.getElem_cons_zero, Act.put, List.setIfInBounds_toArray, List.set_cons_zero, List.set_cons_succ]
    refine wpAnyH_ready (rs := [21]) (by kernel_rfl) (by simp) ?_
    refine AllReadyH.cons rfl (fun K hK => ?_) AllReadyH.nil
    go_simp
    refine (HW.out.2.2.2.1 _ hSg).mono ?_
    rintro e w12 ⟨rfl, b12⟩
    have hSh := hSg.trans (b12.mono hSg.size)
    refine Shut.out hK _ _ hSh (fun _ => ?_)
    clear hK K
    refine wpAnyH_take (i := 22) (v := .bool true) rfl (by kernel_rfl) (by kernel_rfl) (by kernel_rfl) (fun _ _ _ h => h) (Or.inl ⟨by kernel_rfl, fun w' hSw => ?_⟩) hSh ?_
    · go_simp
    simp only [List.getElem_toArray, List.getElem_cons_succ, List.getElem_cons_zero, Act.put, List.setIfInBounds_toArray, List.set_cons_zero, List.set_cons_succ]
    refine wpAnyH_take (i := 23) (v := .bool true) rfl (by kernel_rfl) (by kernel_rfl) (by kernel_rfl) (fun _ _ _ h => h) (Or.inl ⟨by kernel_rfl, fun w' hSw => ?_⟩) hSh ?_
    · go_simp
    simp only [List.getElem_toArray, List.getElem_cons_succ, List.getElem_cons_zero, Act.put, List.setIfInBounds_toArray, List.set_cons_zero, List.set_cons_succ]
    refine wpAnyH_done (by kernel_rfl) ?_ _
    have HE := Lib.hid (S7x.out.1.trans ((HW.out.2.2.2.2 _ hSh).mono S7x.out.1.size))
    clear hSe hSg hSh
    go_wp2_with (fail)
    go_ret
    exact ⟨rfl, HE.out⟩
end Go.Proofs.YtnlncfjibbdimaaDoor

namespace Go.Proofs.YtnlncfjibbdimaaDoor
open Go.ChangeShapes Go.WideShapes Go.ChangeAt Go.RowKit Go.Deep
set_option linter.unusedSimpArgs false
set_option linter.unusedVariables false
def sentsPostPuts : List (String × Nat × List UInt8) := [("bollard/api.ErrNumber", 0, [98, 111, 108, 108, 97, 114, 100, 58, 32, 110, 117, 109, 98, 101, 114]), ("bollard/api.ErrBytes", 2, [98, 111, 108, 108, 97, 114, 100, 58, 32, 98, 121, 116, 101, 115]), ("bollard/api.ErrDigest", 8, [98, 111, 108, 108, 97, 114, 100, 58, 32, 100, 105, 103, 101, 115, 116]), ("bollard/api.ErrLarge", 12, [98, 111, 108, 108, 97, 114, 100, 58, 32, 108, 97, 114, 103, 101]), ("bollard/api.ErrState", 1, [98, 111, 108, 108, 97, 114, 100, 58, 32, 115, 116, 97, 116, 101])]
theorem sentsPostPuts_ok : ∀ x ∈ sentsPostPuts, SentOk x := by
  intro x hx
  simp only [sentsPostPuts, List.mem_cons, List.not_mem_nil, or_false] at hx
  rcases hx with rfl | rfl | rfl | rfl | rfl
  · exact ⟨by kernel_rfl, by kernel_rfl⟩
  · exact ⟨by kernel_rfl, by kernel_rfl⟩
  · exact ⟨by kernel_rfl, by kernel_rfl⟩
  · exact ⟨by kernel_rfl, by kernel_rfl⟩
  · exact ⟨by kernel_rfl, by kernel_rfl⟩
set_option maxRecDepth 100000 in
theorem postPuts_walk : LawWalk 18 Tryd.f18 (sentsPostPuts.map (·.2.1)) := by
  intro H enc W base args ds p A hA hval hsz hlt hE
  rw [Tryd.params18] at hA hval hsz
  obtain ⟨v0, vs0, d0, ds0, p0, q0, hargs, rfl, rfl, h0, r0⟩ := trodAll_cons hA
  obtain ⟨rfl, rfl, rfl⟩ := trodAll_nil r0
  obtain rfl : args = #[v0] := by cases args; simp_all
  have hl0 : Light 143 d0 := light_of_each (j := 0) hsz rfl rfl
  obtain ⟨cs0, rfl, _⟩ := okWide_struct Tryd.underlying143 (hval 0 143 v0 rfl rfl)
  obtain ⟨f0, h0⟩ := h0
  obtain ⟨m, lv, fv, hcm, hM⟩ := open_msg h0 hl0
  have e0 : cs0 = (m.cells lv fv).toArray := by
    have e : (Value.agg cs0).cells.toList = cs0.toList := rfl
    rw [e] at hcm
    rw [← Array.toArray_toList (xs := cs0), hcm]
  subst e0
  exact pputs_any m W 0 W.heap.size lv fv hM (A 1) (A 2) (A 8) (A 12) (hE.cell 1 (by decide)) (hE.cell 2 (by decide)) (hE.cell 8 (by decide)) (hE.cell 12 (by decide))
end Go.Proofs.YtnlncfjibbdimaaDoor
