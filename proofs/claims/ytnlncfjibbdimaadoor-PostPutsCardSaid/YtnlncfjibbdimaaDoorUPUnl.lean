/-
  PostUnlike: the walk.
  PostSlips: the walk, off the row's reading of its arguments.
  PostUnlike: the walk, off the row's reading of its arguments.
-/
import Derived.Test.YtnlncfjibbdimaaDoorUPWire
import Derived.Test.YtnlncfjibbdimaaDoorUPGet
import Derived.Test.YtnlncfjibbdimaaDoorUPInAny
import Derived.Test.YtnlncfjibbdimaaDoorUPSame
import Derived.Deep.RegionHeld3
import Derived.Deep.MidRow
import Derived.Test.YtnlncfjibbdimaaDoorULedgersW
import Derived.Test.YtnlncfjibbdimaaDoorURRead
import Derived.Test.YtnlncfjibbdimaaDoorUBase
namespace Go.Proofs.YtnlncfjibbdimaaDoor
open Go.RowKit
set_option linter.unusedSimpArgs false
set_option linter.unusedVariables false
theorem PPutPost.no {m : Msg} {a1 : Addr} {w w' : World} {e : Ending} (h : PPutPost m a1 w e w') (hc : chkM m = false) : e = .returned (.tuple #[.slice none 0 0, errv a1]) ∧ Below w.heap.size w w' := by
  obtain ⟨hb, ⟨_, rfl⟩ | ⟨hf, _⟩⟩ := h
  · exact ⟨rfl, hb⟩
  · rw [hc] at hf; cases hf
theorem PPutPost.yes {m : Msg} {a1 : Addr} {w w' : World} {e : Ending} (h : PPutPost m a1 w e w') (hc : chkM m = true) :
    ∃ A c, e = .returned (.tuple #[.slice A (putM m).length c, .nilIface]) ∧ OwnB w' w.heap.size (.slice A (putM m).length c) (putM m) ∧ Below w.heap.size w w' := by
  obtain ⟨hb, ⟨hf, _⟩ | ⟨_, v, rfl, ho⟩⟩ := h
  · rw [hc] at hf; cases hf
  · obtain ⟨A, c, rfl⟩ := ho.1
    exact ⟨A, c, rfl, ho, hb⟩
theorem PGetPost.ok {m : Msg} {a2 a8 : Addr} {w w' : World} {e : Ending} (h : PGetPost (putM m) a2 a8 w e w') (hc : chkM m = true) :
    ∃ lv fv, e = .returned (.tuple #[.agg (m.cells lv fv).toArray, .nilIface]) ∧ MsgAt w' w.heap.size w'.heap.size lv fv m ∧ Below w.heap.size w w' := by
  obtain ⟨lv, fv, he, hm, hb⟩ := h
  rw [pans_put hc] at he hm
  exact ⟨lv, fv, he, hm, hb⟩
theorem putM_len {m : Msg} (h : chkM m = true) : (putM m).length ≤ 8300004 := by
  unfold putM
  rw [sealN_length]
  have := msgN_len h
  omega
theorem putM_byte {m : Msg} (hf : ∀ x ∈ m.frame, x < 256) : ∀ x ∈ putM m, x < 256 := sealN_byte' (msgN_byte hf)
theorem MsgAt.bytes {w : World} {lo hi : Nat} {lv fv : Value} {m : Msg} (h : MsgAt w lo hi lv fv m) : ∀ x ∈ putM m, x < 256 := by
  obtain ⟨_, _, _, _, _, _, _, h256, _⟩ := h.frm
  exact putM_byte h256
/-- What holds through the law: the two messages' own blocks. -/
def USt (w : World) (A B : Array Value) (W : World) : Prop := Below w.heap.size w W ∧ Blk W w.heap.size 143 A ∧ Blk W (w.heap.size + 1) 143 B
theorem USt.below {w W W' : World} {A B : Array Value} (h : USt w A B W) (f : Below W.heap.size W W') : USt w A B W' :=
  ⟨h.1.trans (f.mono h.1.size), h.2.1.below f h.2.1.lt, h.2.2.below f h.2.2.lt⟩
set_option maxRecDepth 100000 in
set_option maxHeartbeats 6400000 in
theorem punlike_any (a b : Msg) (w : World) (lo1 hi1 lo2 hi2 : Nat) (la fa lb fb : Value) (ha : MsgAt w lo1 hi1 la fa a) (hb : MsgAt w lo2 hi2 lb fb b) (a1 a2 a8 a12 : Addr)
    (h1 : w.cell? ⟨1, 0, none⟩ = some (errv a1)) (h2 : w.cell? ⟨2, 0, none⟩ = some (errv a2)) (h8 : w.cell? ⟨8, 0, none⟩ = some (errv a8)) (h12 : w.cell? ⟨12, 0, none⟩ = some (errv a12)) :
    Calls Tryd.prog 21 #[.agg (a.cells la fa).toArray, .agg (b.cells lb fb).toArray] w fun e w' => e = .returned (.bool true) ∧ Below w.heap.size w w' := by
  have HG := Lib.hid (show ∀ W, Below w.heap.size w W → W.cell? ⟨1, 0, none⟩ = some (errv a1) ∧ W.cell? ⟨2, 0, none⟩ = some (errv a2) ∧ W.cell? ⟨8, 0, none⟩ = some (errv a8) ∧ W.cell? ⟨12, 0, none⟩ = some (errv a12) from
    fun W b => ⟨(b.cell (World.block_lt_of_cell? w _ h1)).trans h1, (b.cell (World.block_lt_of_cell? w _ h2)).trans h2, (b.cell (World.block_lt_of_cell? w _ h8)).trans h8, (b.cell (World.block_lt_of_cell? w _ h12)).trans h12⟩)
  have HM := Lib.hid (show ∀ W, Below w.heap.size w W → MsgAt W 0 w.heap.size la fa a ∧ MsgAt W 0 w.heap.size lb fb b from
    fun W f => ⟨(ha.below f ha.hi_).wider (Nat.zero_le _) ha.hi_ f.size, (hb.below f hb.hi_).wider (Nat.zero_le _) hb.hi_ f.size⟩)
  have HBY := Lib.hid (And.intro ha.bytes hb.bytes)
  clear ha hb h1 h2 h8 h12
  go_enter Tryd.func21, Tryd.ntmps21
  go_upto_region 1 with (fail)
  refine wp_letter (fun W => USt w (a.cells la fa).toArray (b.cells lb fb).toArray W)
    ⟨((Below.refl w.heap.size w).alloc (Nat.le_refl _) _).alloc (by simp) _, (Blk.new w 143 _).alloc _, Blk.new1 w _ 143 _⟩ ?_
  rintro W hS
  have k74 := alive15_any W a1 a12 (HG.out W hS.1).1 (HG.out W hS.1).2.2.2
  obtain ⟨x, hx⟩ : ∃ x, x = w.heap.size := ⟨_, rfl⟩
  have S0 := Lib.hid hS
  have HX := Lib.hid hx
  have HK74 := Lib.hid k74
  rw [← hx]
  clear hS k74 hx
  go_upto_region 3 with (first | (go_at_call 74; refine HK74.out.mono ?_; rintro e w1 ⟨rfl, b1⟩; have S1 := Lib.hid (S0.out.below b1); clear b1) | fail)
  have k77 := pput_any a w1 0 w.heap.size la fa (HM.out w1 S1.out.1).1 a1 a12 (HG.out w1 S1.out.1).1 (HG.out w1 S1.out.1).2.2.2
  have HKA := Lib.hid k77
  clear k77 HK74
  have hra1 := S1.out.2.1.range
  have hrb1 := S1.out.2.2.range
  rw [← HX.out] at hra1 hrb1
  cases hca : chkM a with
  | false =>
    have HCA := Lib.hid hca
    clear hca
    cases hcb : chkM b with
    | false =>
      have HCB := Lib.hid hcb
      clear hcb
      go_upto_region 4 with (first | ((with_reducible refine law_load 143 (.tmp 2) x 0 (a.cells la fa) ?_ hra1 Tryd.underlying143 ?_ ?_ ?_); rfl; rfl; exact msg_info) | (go_at_call 77; refine HKA.out.mono ?_; rintro e w2 hp2; obtain ⟨rfl, b2⟩ := hp2.no HCA.out; have S2 := Lib.hid (S1.out.below b2); clear hp2 b2) | fail)
      have hra2 := S2.out.2.1.range
      have hrb2 := S2.out.2.2.range
      rw [← HX.out] at hra2 hrb2
      have k77 := pput_any b w2 0 w.heap.size lb fb (HM.out w2 S2.out.1).2 a1 a12 (HG.out w2 S2.out.1).1 (HG.out w2 S2.out.1).2.2.2
      have HKB := Lib.hid k77
      clear k77 hra1 hrb1
      go_upto_region 5 with (first | ((with_reducible refine law_load 143 (.tmp 3) (x + 1) 0 (b.cells lb fb) ?_ hrb2 Tryd.underlying143 ?_ ?_ ?_); rfl; rfl; exact msg_info) | (go_at_call 77; refine HKB.out.mono ?_; rintro e w3 hp3; obtain ⟨rfl, b3⟩ := hp3.no HCB.out; have S3 := Lib.hid (S2.out.below b3); clear hp3 b3) | fail)
      have hra3 := S3.out.2.1.range
      have hrb3 := S3.out.2.2.range
      rw [← HX.out] at hra3 hrb3
      have k79 := pin_any a w3 0 w.heap.size la fa (HM.out w3 S3.out.1).1
      rw [HCA.out] at k79
      have HKI := Lib.hid k79
      clear k79 hra2 hrb2
      go_wp2_with (first | ((with_reducible refine law_load 143 (.tmp 2) x 0 (a.cells la fa) ?_ hra3 Tryd.underlying143 ?_ ?_ ?_); rfl; rfl; exact msg_info) | (go_at_call 79; (with_reducible refine HKI.out.mono ?_); rintro e w4 ⟨rfl, b4⟩; have S4 := Lib.hid (S3.out.below b4); clear b4) | fail)
      go_ret
      exact ⟨rfl, S4.out.1⟩
    | true =>
      have HCB := Lib.hid hcb
      clear hcb
      go_upto_region 4 with (first | ((with_reducible refine law_load 143 (.tmp 2) x 0 (a.cells la fa) ?_ hra1 Tryd.underlying143 ?_ ?_ ?_); rfl; rfl; exact msg_info) | (go_at_call 77; refine HKA.out.mono ?_; rintro e w2 hp2; obtain ⟨rfl, b2⟩ := hp2.no HCA.out; have S2 := Lib.hid (S1.out.below b2); clear hp2 b2) | fail)
      have hra2 := S2.out.2.1.range
      have hrb2 := S2.out.2.2.range
      rw [← HX.out] at hra2 hrb2
      have k77 := pput_any b w2 0 w.heap.size lb fb (HM.out w2 S2.out.1).2 a1 a12 (HG.out w2 S2.out.1).1 (HG.out w2 S2.out.1).2.2.2
      have HKB := Lib.hid k77
      clear k77 hra1 hrb1
      go_upto_region 5 with (first | ((with_reducible refine law_load 143 (.tmp 3) (x + 1) 0 (b.cells lb fb) ?_ hrb2 Tryd.underlying143 ?_ ?_ ?_); rfl; rfl; exact msg_info) | (go_at_call 77; refine HKB.out.mono ?_; rintro e w3 hp3; obtain ⟨A3, c3, rfl, o3, b3⟩ := hp3.yes HCB.out; have S3 := Lib.hid (S2.out.below b3); have O3 := Lib.hid (And.intro o3 b3); clear hp3 o3 b3) | fail)
      have hra3 := S3.out.2.1.range
      have hrb3 := S3.out.2.2.range
      rw [← HX.out] at hra3 hrb3
      have k79 := pin_any a w3 0 w.heap.size la fa (HM.out w3 S3.out.1).1
      rw [HCA.out] at k79
      have HKI := Lib.hid k79
      clear k79 hra2 hrb2
      go_wp2_with (first | ((with_reducible refine law_load 143 (.tmp 2) x 0 (a.cells la fa) ?_ hra3 Tryd.underlying143 ?_ ?_ ?_); rfl; rfl; exact msg_info) | (go_at_call 79; (with_reducible refine HKI.out.mono ?_); rintro e w4 ⟨rfl, b4⟩; have S4 := Lib.hid (S3.out.below b4); clear b4) | fail)
      go_ret
      exact ⟨rfl, S4.out.1⟩
  | true =>
    have HCA := Lib.hid hca
    clear hca
    cases hcb : chkM b with
    | false =>
      have HCB := Lib.hid hcb
      clear hcb
      go_upto_region 4 with (first | ((with_reducible refine law_load 143 (.tmp 2) x 0 (a.cells la fa) ?_ hra1 Tryd.underlying143 ?_ ?_ ?_); rfl; rfl; exact msg_info) | (go_at_call 77; refine HKA.out.mono ?_; rintro e w2 hp2; obtain ⟨A2, c2, rfl, o2, b2⟩ := hp2.yes HCA.out; have S2 := Lib.hid (S1.out.below b2); have O2 := Lib.hid (And.intro o2 b2); clear hp2 o2 b2) | fail)
      have hra2 := S2.out.2.1.range
      have hrb2 := S2.out.2.2.range
      rw [← HX.out] at hra2 hrb2
      have k77 := pput_any b w2 0 w.heap.size lb fb (HM.out w2 S2.out.1).2 a1 a12 (HG.out w2 S2.out.1).1 (HG.out w2 S2.out.1).2.2.2
      have HKB := Lib.hid k77
      clear k77 hra1 hrb1
      go_upto_region 5 with (first | ((with_reducible refine law_load 143 (.tmp 3) (x + 1) 0 (b.cells lb fb) ?_ hrb2 Tryd.underlying143 ?_ ?_ ?_); rfl; rfl; exact msg_info) | (go_at_call 77; refine HKB.out.mono ?_; rintro e w3 hp3; obtain ⟨rfl, b3⟩ := hp3.no HCB.out; have S3 := Lib.hid (S2.out.below b3); clear hp3 b3) | fail)
      have hra3 := S3.out.2.1.range
      have hrb3 := S3.out.2.2.range
      rw [← HX.out] at hra3 hrb3
      have k79 := pin_any a w3 0 w.heap.size la fa (HM.out w3 S3.out.1).1
      rw [HCA.out] at k79
      have HKI := Lib.hid k79
      clear k79 hra2 hrb2
      go_wp2_with (first | ((with_reducible refine law_load 143 (.tmp 2) x 0 (a.cells la fa) ?_ hra3 Tryd.underlying143 ?_ ?_ ?_); rfl; rfl; exact msg_info) | (go_at_call 79; (with_reducible refine HKI.out.mono ?_); rintro e w4 ⟨rfl, b4⟩; have S4 := Lib.hid (S3.out.below b4); have B4 := Lib.hid b4; clear b4; have k79 := pin_any b w4 0 w.heap.size lb fb (HM.out w4 S4.out.1).2; rw [HCB.out] at k79; have hrb4 := S4.out.2.2.range; rw [← HX.out] at hrb4; obtain ⟨CS, hCS⟩ : ∃ cs, cs = b.cells lb fb := ⟨_, rfl⟩; rw [← hCS] at hrb4 k79; have hc18 : (Tryd.prog.info? 143).map (·.size) = some CS.length := (by rw [hCS]; exact msg_info); have hld := run_loadVar_mid (P := Tryd.prog) w4 (x + 1) 0 143 CS _ hrb4 Tryd.underlying143 rfl hc18; have HKJ := Lib.hid k79; have HCS := Lib.hid hCS; clear k79 hCS; simp [go_sem] at hld) | (go_at_call 79; refine HKJ.out.mono ?_; rintro e w5 ⟨rfl, b5⟩; have S5 := Lib.hid (S4.out.below b5); have B5 := Lib.hid b5; clear b5) | fail)
      go_ret
      exact ⟨rfl, S5.out.1⟩
    | true =>
      have HCB := Lib.hid hcb
      clear hcb
      go_upto_region 4 with (first | ((with_reducible refine law_load 143 (.tmp 2) x 0 (a.cells la fa) ?_ hra1 Tryd.underlying143 ?_ ?_ ?_); rfl; rfl; exact msg_info) | (go_at_call 77; refine HKA.out.mono ?_; rintro e w2 hp2; obtain ⟨A2, c2, rfl, o2, b2⟩ := hp2.yes HCA.out; have S2 := Lib.hid (S1.out.below b2); have O2 := Lib.hid (And.intro o2 b2); clear hp2 o2 b2) | fail)
      have hra2 := S2.out.2.1.range
      have hrb2 := S2.out.2.2.range
      rw [← HX.out] at hra2 hrb2
      have k77 := pput_any b w2 0 w.heap.size lb fb (HM.out w2 S2.out.1).2 a1 a12 (HG.out w2 S2.out.1).1 (HG.out w2 S2.out.1).2.2.2
      have HKB := Lib.hid k77
      clear k77 hra1 hrb1
      go_upto_region 5 with (first | ((with_reducible refine law_load 143 (.tmp 3) (x + 1) 0 (b.cells lb fb) ?_ hrb2 Tryd.underlying143 ?_ ?_ ?_); rfl; rfl; exact msg_info) | (go_at_call 77; refine HKB.out.mono ?_; rintro e w3 hp3; obtain ⟨A3, c3, rfl, o3, b3⟩ := hp3.yes HCB.out; have S3 := Lib.hid (S2.out.below b3); have O3 := Lib.hid (And.intro o3 b3); clear hp3 o3 b3) | fail)
      have hra3 := S3.out.2.1.range
      have hrb3 := S3.out.2.2.range
      rw [← HX.out] at hra3 hrb3
      have k79 := pin_any a w3 0 w.heap.size la fa (HM.out w3 S3.out.1).1
      rw [HCA.out] at k79
      have HKI := Lib.hid k79
      clear k79 hra2 hrb2
      go_upto_region 7 with (first | ((with_reducible refine law_load 143 (.tmp 2) x 0 (a.cells la fa) ?_ hra3 Tryd.underlying143 ?_ ?_ ?_); rfl; rfl; exact msg_info) | (go_at_call 79; (with_reducible refine HKI.out.mono ?_); rintro e w4 ⟨rfl, b4⟩; have S4 := Lib.hid (S3.out.below b4); have B4 := Lib.hid b4; clear b4; have k79 := pin_any b w4 0 w.heap.size lb fb (HM.out w4 S4.out.1).2; rw [HCB.out] at k79; have hrb4 := S4.out.2.2.range; rw [← HX.out] at hrb4; obtain ⟨CS, hCS⟩ : ∃ cs, cs = b.cells lb fb := ⟨_, rfl⟩; rw [← hCS] at hrb4 k79; have hc18 : (Tryd.prog.info? 143).map (·.size) = some CS.length := (by rw [hCS]; exact msg_info); have hld := run_loadVar_mid (P := Tryd.prog) w4 (x + 1) 0 143 CS _ hrb4 Tryd.underlying143 rfl hc18; have HKJ := Lib.hid k79; have HCS := Lib.hid hCS; clear k79 hCS; simp [go_sem] at hld) | (go_at_call 79; refine HKJ.out.mono ?_; rintro e w5 ⟨rfl, b5⟩; have S5 := Lib.hid (S4.out.below b5); have B5 := Lib.hid b5; clear b5) | fail)
      have B34 := B4.out
      have B35 := B34.trans (B5.out.mono B34.size)
      have B25 := O3.out.2.trans (B35.mono O3.out.2.size)
      have hrx5 : Rd w5 0 w5.heap.size 1 A2 (putM a).length (u8s (putM a)) := ((own_rd O2.out.1).fr (Fr.of_below B25 (fun _ => False)) (Nat.le_refl _) (fun _ _ _ h => h)).wider (Nat.zero_le _) B25.size
      have hry5 : Rd w5 0 w5.heap.size 1 A3 (putM b).length (u8s (putM b)) := ((own_rd O3.out.1).fr (Fr.of_below B35 (fun _ => False)) (Nat.le_refl _) (fun _ _ _ h => h)).wider (Nat.zero_le _) B35.size
      have k80 := pget_any w5 w5.heap.size c2 A2 (putM a) hrx5 (Nat.le_refl _) (Nat.le_trans (putM_len HCA.out) (by decide)) (own_cap O2.out.1) HBY.out.1 a1 a2 a8 (HG.out w5 S5.out.1).1 (HG.out w5 S5.out.1).2.1 (HG.out w5 S5.out.1).2.2.1
      have HK80 := Lib.hid k80
      have HRX := Lib.hid (And.intro hrx5 hry5)
      clear k80 B34 B35 B25 hrx5 hry5 hra3 hrb3
      go_upto_region 7 with (fail)
      go_upto_region 8 with (first
        | (go_at_call 80
           refine HK80.out.mono ?_
           rintro e w6 hg6
           obtain ⟨lv, fv, rfl, m6, b6⟩ := hg6.ok HCA.out
           have hone6 := msg_one m6
           have S6 := Lib.hid (S5.out.below b6)
           have M6 := Lib.hid (And.intro m6 (And.intro b6 hone6))
           clear hg6 m6 b6 hone6)
        | ((with_reducible refine law_store_fresh 143 (.tmp 9) (.tmp 40) w6 143 _ (a.cells lv fv).toArray ?_ ?_ rfl ?_ ?_ M6.out.2.2 ?_); rfl; rfl; exact msg_info; rfl)
        | fail)
      have bA : Below w6.heap.size w6 (w6.alloc (.cells (a.cells lv fv).toArray 143)) := (Below.refl w6.heap.size w6).alloc (Nat.le_refl _) _
      have bA5 := M6.out.2.1.trans (bA.mono M6.out.2.1.size)
      refine wp_letter (fun W => USt w (a.cells la fa).toArray (b.cells lb fb).toArray W ∧ Blk W w6.heap.size 143 (a.cells lv fv).toArray ∧ MsgAt W w5.heap.size w6.heap.size lv fv a ∧ Rd W 0 W.heap.size 1 A2 (putM a).length (u8s (putM a)) ∧ Rd W 0 W.heap.size 1 A3 (putM b).length (u8s (putM b)))
        ⟨S6.out.below bA, Blk.new w6 143 _, M6.out.1.below bA (Nat.le_refl _), (HRX.out.1.fr (Fr.of_below bA5 (fun _ => False)) (Nat.le_refl _) (fun _ _ _ h => h)).wider (Nat.zero_le _) bA5.size, (HRX.out.2.fr (Fr.of_below bA5 (fun _ => False)) (Nat.le_refl _) (fun _ _ _ h => h)).wider (Nat.zero_le _) bA5.size⟩ ?_
      obtain ⟨y, hy⟩ : ∃ y, y = w6.heap.size := ⟨_, rfl⟩
      rw [← hy]
      clear bA bA5 hy
      rintro W7 ⟨hS7, hY7, hM7, hX7, hZ7⟩
      obtain ⟨r, hr⟩ : ∃ r, r = tf (a = b) := ⟨_, rfl⟩
      have V1 : ∀ w', Below W7.heap.size W7 w' → (convert 84 9 (.slice A2 (putM a).length c2)).run Tryd.prog w' = .ok (.string (textOf (putM a))) w' := fun w' f =>
        conv_bytes HBY.out.1 (hX7.fr (Fr.of_below f (fun _ => False)) (Nat.le_refl _) (fun _ _ _ h => h)) (own_none O2.out.1)
      have V2 : ∀ w', Below W7.heap.size W7 w' → (convert 84 9 (.slice A3 (putM b).length c3)).run Tryd.prog w' = .ok (.string (textOf (putM b))) w' := fun w' f =>
        conv_bytes HBY.out.2 (hZ7.fr (Fr.of_below f (fun _ => False)) (Nat.le_refl _) (fun _ _ _ h => h)) (own_none O3.out.1)
      have RY : ∀ w', Below W7.heap.size W7 w' → w'.rangeAt y 0 (a.cells lv fv) := fun w' f => (hY7.below f hY7.lt).range
      have RA : ∀ w', Below W7.heap.size W7 w' → w'.rangeAt x 0 (a.cells la fa) := fun w' f => by rw [HX.out]; exact (hS7.2.1.below f hS7.2.1.lt).range
      have RB : ∀ w', Below W7.heap.size W7 w' → w'.rangeAt (x + 1) 0 (b.cells lb fb) := fun w' f => by rw [HX.out]; exact (hS7.2.2.below f hS7.2.2.lt).range
      have K1 : ∀ w', Below W7.heap.size W7 w' → Calls Tryd.prog 78 #[.agg (a.cells lv fv).toArray, .agg (a.cells la fa).toArray] w' (YesNo true w') := fun w' f => by
        have k := psame_any a a w' _ _ 0 w.heap.size lv fv la fa (hM7.below f hM7.hi_) (HM.out w' (hS7.1.trans (f.mono hS7.1.size))).1
        rw [tf_true rfl] at k
        exact k
      have K2 : ∀ w', Below W7.heap.size W7 w' → Calls Tryd.prog 78 #[.agg (a.cells la fa).toArray, .agg (b.cells lb fb).toArray] w' (YesNo r w') := fun w' f => by
        rw [hr]
        exact psame_any a b w' 0 w.heap.size 0 w.heap.size la fa lb fb (HM.out w' (hS7.1.trans (f.mono hS7.1.size))).1 (HM.out w' (hS7.1.trans (f.mono hS7.1.size))).2
      have q1 : ((textOf (putM a)).toList == (textOf (putM b)).toList) = r := by
        rw [textOf_eq HBY.out.1 HBY.out.2, hr]
        by_cases hab : a = b
        · rw [tf_true hab, decide_eq_true (by rw [hab])]
        · rw [tf_false hab, decide_eq_false (fun h => hab (putM_inj HCA.out HCB.out h))]
      have HV := Lib.hid (And.intro V1 (And.intro V2 (And.intro RY (And.intro RA (And.intro RB (And.intro K1 K2))))))
      have S7 := Lib.hid hS7
      clear V1 V2 RY RA RB K1 K2 hS7 hY7 hM7 hX7 hZ7 hr
      have hSe : Below W7.heap.size W7 W7.drew := (Below.refl W7.heap.size W7).drew
      refine wp_region_held_drew (S := fun w' => Below W7.heap.size W7 w') (by kernel_rfl) hSe (fun _ => ?_)
      refine wpAnyH_take (i := 0) (v := .nilIface) rfl (by kernel_rfl) (by kernel_rfl) (by kernel_rfl) (fun _ _ _ h => h) (Or.inl ⟨by kernel_rfl, fun w' hSw => ?_⟩) hSe ?_
      · go_simp
      simp only [List.getElem_toArray, List.getElem_cons_succ, List.getElem_cons_zero, Act.put, List.setIfInBounds_toArray, List.set_cons_zero, List.set_cons_succ]
      refine wpAnyH_take (i := 1) (v := .bool true) rfl (by kernel_rfl) (by kernel_rfl) (by kernel_rfl) (fun _ _ _ h => h) (Or.inl ⟨by kernel_rfl, fun w' hSw => ?_⟩) hSe ?_
      · go_simp
      simp only [List.getElem_toArray, List.getElem_cons_succ, List.getElem_cons_zero, Act.put, List.setIfInBounds_toArray, List.set_cons_zero, List.set_cons_succ]
      refine wpAnyH_take (i := 2) (v := .bool true) rfl (by kernel_rfl) (by kernel_rfl) (by kernel_rfl) (fun _ _ _ h => h) (Or.inl ⟨by kernel_rfl, fun w' hSw => ?_⟩) hSe ?_
      · go_simp
      simp only [List.getElem_toArray, List.getElem_cons_succ, List.getElem_cons_zero, Act.put, List.setIfInBounds_toArray, List.set_cons_zero, List.set_cons_succ]
      refine wpAnyH_take (i := 3) (v := .nilIface) rfl (by kernel_rfl) (by kernel_rfl) (by kernel_rfl) (fun _ _ _ h => h) (Or.inl ⟨by kernel_rfl, fun w' hSw => ?_⟩) hSe ?_
      · go_simp
      simp only [List.getElem_toArray, List.getElem_cons_succ, List.getElem_cons_zero, Act.put, List.setIfInBounds_toArray, List.set_cons_zero, List.set_cons_succ]
      refine wpAnyH_take (i := 4) (v := .bool true) rfl (by kernel_rfl) (by kernel_rfl) (by kernel_rfl) (fun _ _ _ h => h) (Or.inl ⟨by kernel_rfl, fun w' hSw => ?_⟩) hSe ?_
      · go_simp
      simp only [List.getElem_toArray, List.getElem_cons_succ, List.getElem_cons_zero, Act.put, List.setIfInBounds_toArray, List.set_cons_zero, List.set_cons_succ]
      refine wpAnyH_take (i := 5) (v := .bool true) rfl (by kernel_rfl) (by kernel_rfl) (by kernel_rfl) (fun _ _ _ h => h) (Or.inl ⟨by kernel_rfl, fun w' hSw => ?_⟩) hSe ?_
      · go_simp
      simp only [List.getElem_toArray, List.getElem_cons_succ, List.getElem_cons_zero, Act.put, List.setIfInBounds_toArray, List.set_cons_zero, List.set_cons_succ]
      refine wpAnyH_take (i := 6) (v := .bool true) rfl (by kernel_rfl) (by kernel_rfl) (by kernel_rfl) (fun _ _ _ h => h) (Or.inl ⟨by kernel_rfl, fun w' hSw => ?_⟩) hSe ?_
      · go_simp
      simp only [List.getElem_toArray, List.getElem_cons_succ, List.getElem_cons_zero, Act.put, List.setIfInBounds_toArray, List.set_cons_zero, List.set_cons_succ]
      refine wpAnyH_take (i := 7) (v := .nilIface) rfl (by kernel_rfl) (by kernel_rfl) (by kernel_rfl) (fun _ _ _ h => h) (Or.inl ⟨by kernel_rfl, fun w' hSw => ?_⟩) hSe ?_
      · go_simp
      simp only [List.getElem_toArray, List.getElem_cons_succ, List.getElem_cons_zero, Act.put, List.setIfInBounds_toArray, List.set_cons_zero, List.set_cons_succ]
      refine wpAnyH_take (i := 8) (v := .bool true) rfl (by kernel_rfl) (by kernel_rfl) (by kernel_rfl) (fun _ _ _ h => h) (Or.inl ⟨by kernel_rfl, fun w' hSw => ?_⟩) hSe ?_
      · go_simp
      simp only [List.getElem_toArray, List.getElem_cons_succ, List.getElem_cons_zero, Act.put, List.setIfInBounds_toArray, List.set_cons_zero, List.set_cons_succ]
      refine wpAnyH_take (i := 9) (v := .bool true) rfl (by kernel_rfl) (by kernel_rfl) (by kernel_rfl) (fun _ _ _ h => h) (Or.inl ⟨by kernel_rfl, fun w' hSw => ?_⟩) hSe ?_
      · go_simp
      simp only [List.getElem_toArray, List.getElem_cons_succ, List.getElem_cons_zero, Act.put, List.setIfInBounds_toArray, List.set_cons_zero, List.set_cons_succ]
      refine wpAnyH_take (i := 10) (v := .bool true) rfl (by kernel_rfl) (by kernel_rfl) (by kernel_rfl) (fun _ _ _ h => h) (Or.inl ⟨by kernel_rfl, fun w' hSw => ?_⟩) hSe ?_
      · go_simp
      simp only [List.getElem_toArray, List.getElem_cons_succ, List.getElem_cons_zero, Act.put, List.setIfInBounds_toArray, List.set_cons_zero, List.set_cons_succ]
      refine wpAnyH_take (i := 11) (v := .agg (a.cells lv fv).toArray) rfl (by kernel_rfl) (by kernel_rfl) (by kernel_rfl) (fun _ _ _ h => h) ?_ hSe ?_
      · refine yieldsIf_load_mid ?_ 143 (.tmp 9) ?_ y 0 ?_ (a.cells lv fv) _ (fun w' h => HV.out.2.2.1 w' h) Tryd.underlying143 ?_ msg_info
        · kernel_rfl
        · rfl
        · kernel_rfl
        · rfl
      simp only [List.getElem_toArray, List.getElem_cons_succ, List.getElem_cons_zero, Act.put, List.setIfInBounds_toArray, List.set_cons_zero, List.set_cons_succ]
      refine wpAnyH_take (i := 12) (v := .agg (a.cells la fa).toArray) rfl (by kernel_rfl) (by kernel_rfl) (by kernel_rfl) (fun _ _ _ h => h) ?_ hSe ?_
      · refine yieldsIf_load_mid ?_ 143 (.tmp 2) ?_ x 0 ?_ (a.cells la fa) _ (fun w' h => HV.out.2.2.2.1 w' h) Tryd.underlying143 ?_ msg_info
        · kernel_rfl
        · rfl
        · kernel_rfl
        · rfl
      simp only [List.getElem_toArray, List.getElem_cons_succ, List.getElem_cons_zero, Act.put, List.setIfInBounds_toArray, List.set_cons_zero, List.set_cons_succ]
      refine wpAnyH_ready (rs := [13]) (by kernel_rfl) (by simp) ?_
      refine AllReadyH.cons rfl (fun K hK => ?_) AllReadyH.nil
      go_simp
      refine (HV.out.2.2.2.2.2.1 _ hSe).mono ?_
      rintro e w8 ⟨rfl, b8⟩
      have hSf := hSe.trans (b8.mono hSe.size)
      refine Shut.out hK _ _ hSf (fun _ => ?_)
      clear hK K
      refine wpAnyH_take (i := 14) (v := .bool true) rfl (by kernel_rfl) (by kernel_rfl) (by kernel_rfl) (fun _ _ _ h => h) (Or.inl ⟨by kernel_rfl, fun w' hSw => ?_⟩) hSf ?_
      · go_simp
      simp only [List.getElem_toArray, List.getElem_cons_succ, List.getElem_cons_zero, Act.put, List.setIfInBounds_toArray, List.set_cons_zero, List.set_cons_succ]
      refine wpAnyH_take (i := 15) (v := .bool true) rfl (by kernel_rfl) (by kernel_rfl) (by kernel_rfl) (fun _ _ _ h => h) (Or.inl ⟨by kernel_rfl, fun w' hSw => ?_⟩) hSf ?_
      · go_simp
      simp only [List.getElem_toArray, List.getElem_cons_succ, List.getElem_cons_zero, Act.put, List.setIfInBounds_toArray, List.set_cons_zero, List.set_cons_succ]
      refine wpAnyH_take (i := 16) (v := .slice A2 (putM a).length c2) rfl (by kernel_rfl) (by kernel_rfl) (by kernel_rfl) (fun _ _ _ h => h) (Or.inl ⟨by kernel_rfl, fun w' hSw => ?_⟩) hSf ?_
      · go_simp
      simp only [List.getElem_toArray, List.getElem_cons_succ, List.getElem_cons_zero, Act.put, List.setIfInBounds_toArray, List.set_cons_zero, List.set_cons_succ]
      refine wpAnyH_take (i := 17) (v := .string (textOf (putM a))) rfl (by kernel_rfl) (by kernel_rfl) (by kernel_rfl) (fun _ _ _ h => h) (Or.inl ⟨by kernel_rfl, fun w' hSw => ?_⟩) hSf ?_
      · (have hcx := HV.out.1 w' hSw; go_simp)
      simp only [List.getElem_toArray, List.getElem_cons_succ, List.getElem_cons_zero, Act.put, List.setIfInBounds_toArray, List.set_cons_zero, List.set_cons_succ]
      refine wpAnyH_take (i := 18) (v := .slice A3 (putM b).length c3) rfl (by kernel_rfl) (by kernel_rfl) (by kernel_rfl) (fun _ _ _ h => h) (Or.inl ⟨by kernel_rfl, fun w' hSw => ?_⟩) hSf ?_
      · go_simp
      simp only [List.getElem_toArray, List.getElem_cons_succ, List.getElem_cons_zero, Act.put, List.setIfInBounds_toArray, List.set_cons_zero, List.set_cons_succ]
      refine wpAnyH_take (i := 19) (v := .string (textOf (putM b))) rfl (by kernel_rfl) (by kernel_rfl) (by kernel_rfl) (fun _ _ _ h => h) (Or.inl ⟨by kernel_rfl, fun w' hSw => ?_⟩) hSf ?_
      · (have hcx := HV.out.2.1 w' hSw; go_simp)
      simp only [List.getElem_toArray, List.getElem_cons_succ, List.getElem_cons_zero, Act.put, List.setIfInBounds_toArray, List.set_cons_zero, List.set_cons_succ]
      refine wpAnyH_take (i := 20) (v := .bool r) rfl (by kernel_rfl) (by kernel_rfl) (by kernel_rfl) (fun _ _ _ h => h) (Or.inl ⟨by kernel_rfl, fun w' hSw => ?_⟩) hSf ?_
      · go_simp
      simp only [List.getElem_toArray, List.getElem_cons_succ, List.getElem_cons_zero, Act.put, List.setIfInBounds_toArray, List.set_cons_zero, List.set_cons_succ]
      refine wpAnyH_take (i := 21) (v := .agg (a.cells la fa).toArray) rfl (by kernel_rfl) (by kernel_rfl) (by kernel_rfl) (fun _ _ _ h => h) ?_ hSf ?_
      · refine yieldsIf_load_mid ?_ 143 (.tmp 2) ?_ x 0 ?_ (a.cells la fa) _ (fun w' h => HV.out.2.2.2.1 w' h) Tryd.underlying143 ?_ msg_info
        · kernel_rfl
        · rfl
        · kernel_rfl
        · rfl
      simp only [List.getElem_toArray, List.getElem_cons_succ, List.getElem_cons_zero, Act.put, List.setIfInBounds_toArray, List.set_cons_zero, List.set_cons_succ]
      refine wpAnyH_take (i := 22) (v := .agg (b.cells lb fb).toArray) rfl (by kernel_rfl) (by kernel_rfl) (by kernel_rfl) (fun _ _ _ h => h) ?_ hSf ?_
      · refine yieldsIf_load_mid ?_ 143 (.tmp 3) ?_ (x + 1) 0 ?_ (b.cells lb fb) _ (fun w' h => HV.out.2.2.2.2.1 w' h) Tryd.underlying143 ?_ msg_info
        · kernel_rfl
        · rfl
        · kernel_rfl
        · rfl
      simp only [List.getElem_toArray, List.getElem_cons_succ, List.getElem_cons_zero, Act.put, List.setIfInBounds_toArray, List.set_cons_zero, List.set_cons_succ]
      refine wpAnyH_ready (rs := [23]) (by kernel_rfl) (by simp) ?_
      refine AllReadyH.cons rfl (fun K hK => ?_) AllReadyH.nil
      go_simp
      refine (HV.out.2.2.2.2.2.2 _ hSf).mono ?_
      rintro e w9 ⟨rfl, b9⟩
      have hSg := hSf.trans (b9.mono hSf.size)
      refine Shut.out hK _ _ hSg (fun _ => ?_)
      clear hK K
      refine wpAnyH_take (i := 24) (v := .bool true) rfl (by kernel_rfl) (by kernel_rfl) (by kernel_rfl) (fun _ _ _ h => h) (Or.inl ⟨by kernel_rfl, fun w' hSw => ?_⟩) hSg ?_
      · go_simp
      simp only [List.getElem_toArray, List.getElem_cons_succ, List.getElem_cons_zero, Act.put, List.setIfInBounds_toArray, List.set_cons_zero, List.set_cons_succ]
      refine wpAnyH_take (i := 25) (v := .bool true) rfl (by kernel_rfl) (by kernel_rfl) (by kernel_rfl) (fun _ _ _ h => h) (Or.inl ⟨by kernel_rfl, fun w' hSw => ?_⟩) hSg ?_
      · go_simp
      simp only [List.getElem_toArray, List.getElem_cons_succ, List.getElem_cons_zero, Act.put, List.setIfInBounds_toArray, List.set_cons_zero, List.set_cons_succ]
      refine wpAnyH_take (i := 26) (v := .bool true) rfl (by kernel_rfl) (by kernel_rfl) (by kernel_rfl) (fun _ _ _ h => h) (Or.inl ⟨by kernel_rfl, fun w' hSw => ?_⟩) hSg ?_
      · go_simp
      simp only [List.getElem_toArray, List.getElem_cons_succ, List.getElem_cons_zero, Act.put, List.setIfInBounds_toArray, List.set_cons_zero, List.set_cons_succ]
      refine wpAnyH_done (by kernel_rfl) ?_ _
      have HE := Lib.hid (S7.out.1.trans (hSg.mono S7.out.1.size))
      clear hSe hSf hSg
      go_wp2_with (fail)
      go_ret
      exact ⟨rfl, HE.out⟩
end Go.Proofs.YtnlncfjibbdimaaDoor

namespace Go.Proofs.YtnlncfjibbdimaaDoor
open Go.ChangeShapes Go.WideShapes Go.ChangeAt Go.RowKit Go.Deep
set_option linter.unusedSimpArgs false
set_option linter.unusedVariables false
section
variable {H : Type} {enc : TypeId × Value → H} {w : World} {base : Nat} {spare : Nat → Bool} {held : Bool} {fuel : Nat} {cs : List Value} {x : DataW H × List MemPlace}
theorem cellsOf143 : Tryd.prog.cellsOf 143 = 16 := by kernel_rfl
theorem cellsOf4' : Tryd.prog.cellsOf 4 = 1 := by kernel_rfl
theorem cellsOf46' : Tryd.prog.cellsOf 46 = 1 := by kernel_rfl
theorem cellsOf84' : Tryd.prog.cellsOf 84 = 1 := by kernel_rfl
theorem list16 {α : Type} {l : List α} (h : l.length = 16) : ∃ a b c d e f g h i j k m n o p q, l = [a, b, c, d, e, f, g, h, i, j, k, m, n, o, p, q] := by
  match l, h with
  | [a, b, c, d, e, f, g, h, i, j, k, m, n, o, p, q], _ => exact ⟨a, b, c, d, e, f, g, h, i, j, k, m, n, o, p, q, rfl⟩
theorem open_msg (h : DataW.trod enc Tryd.prog w base spare held fuel 143 cs = some x) (hx : Light 143 x.1) : ∃ m lv fv, cs = m.cells lv fv ∧ MsgAt w 0 w.heap.size lv fv m := by
  have hlen := trod_len Tryd.underlying143 h
  obtain ⟨_, _, h0⟩ := trod_field Tryd.underlying143 h 0 _ rfl
  obtain ⟨_, _, h1⟩ := trod_field Tryd.underlying143 h 1 _ rfl
  obtain ⟨_, _, h2⟩ := trod_field Tryd.underlying143 h 2 _ rfl
  obtain ⟨_, _, h3⟩ := trod_field Tryd.underlying143 h 3 _ rfl
  obtain ⟨_, _, h4⟩ := trod_field Tryd.underlying143 h 4 _ rfl
  obtain ⟨_, _, h5⟩ := trod_field Tryd.underlying143 h 5 _ rfl
  obtain ⟨_, _, h6, l6⟩ := light_field Tryd.underlying143 h hx 6 _ rfl
  obtain ⟨_, _, h7⟩ := trod_field Tryd.underlying143 h 7 _ rfl
  obtain ⟨_, _, h8⟩ := trod_field Tryd.underlying143 h 8 _ rfl
  obtain ⟨_, _, h9, l9⟩ := light_field Tryd.underlying143 h hx 9 _ rfl
  rw [cellsOf143] at hlen
  obtain ⟨kind, e0, _⟩ := trod_i64 h0
  obtain ⟨frm, e1, _⟩ := trod_i64 h1
  obtain ⟨to_, e2, _⟩ := trod_i64 h2
  obtain ⟨tn, tb, ts, e3, _⟩ := trod_id h3
  obtain ⟨br, bn, e4, _⟩ := trod_bal h4
  obtain ⟨ar, an, e5, _⟩ := trod_bal h5
  obtain ⟨lv, led, e6, hL, hz⟩ := open_led_sz h6 l6
  obtain ⟨xn, xb, xs, e7, _⟩ := trod_id h7
  obtain ⟨ok, e8, _⟩ := DataW.trod_bool Tryd.underlying4 h8
  obtain ⟨fA, fc, frame, e9, hR, hl, hc, hA, h256⟩ := open_bytes h9 l9
  clear h h0 h1 h2 h3 h4 h5 h6 h7 h8 h9 l6 l9 hx
  obtain ⟨c0, c1, c2, c3, c4, c5, c6, c7, c8, c9, c10, c11, c12, c13, c14, c15, rfl⟩ := list16 hlen
  simp [cellsOf3, cellsOf74, cellsOf23, cellsOf46', cellsOf84', cellsOf4'] at e0 e1 e2 e3 e4 e5 e6 e7 e8 e9
  refine ⟨⟨kind, frm, to_, tn, tb, ts, br, bn, ar, an, led, xn, xb, xs, ok, frame⟩, lv, .slice fA frame.length fc, ?_, ⟨hL, ⟨fA, fc, rfl, hc.1, hc.2, hA, hl, h256, hR⟩, hz, Nat.le_refl _⟩⟩
  simp only [Msg.cells, e0, e1, e2, e3.1, e3.2.1, e3.2.2, e4.1, e4.2, e5.1, e5.2, e6, e7.1, e7.2.1, e7.2.2, e8, e9]
end
end Go.Proofs.YtnlncfjibbdimaaDoor

namespace Go.Proofs.YtnlncfjibbdimaaDoor
open Go.ChangeShapes Go.WideShapes Go.ChangeAt Go.RowKit Go.Deep
set_option linter.unusedSimpArgs false
set_option linter.unusedVariables false
def sentsPostUnlike : List (String × Nat × List UInt8) := [("bollard/api.ErrNumber", 0, [98, 111, 108, 108, 97, 114, 100, 58, 32, 110, 117, 109, 98, 101, 114]), ("bollard/api.ErrBytes", 2, [98, 111, 108, 108, 97, 114, 100, 58, 32, 98, 121, 116, 101, 115]), ("bollard/api.ErrDigest", 8, [98, 111, 108, 108, 97, 114, 100, 58, 32, 100, 105, 103, 101, 115, 116]), ("bollard/api.ErrLarge", 12, [98, 111, 108, 108, 97, 114, 100, 58, 32, 108, 97, 114, 103, 101]), ("bollard/api.ErrState", 1, [98, 111, 108, 108, 97, 114, 100, 58, 32, 115, 116, 97, 116, 101])]
theorem sentsPostUnlike_ok : ∀ x ∈ sentsPostUnlike, SentOk x := by
  intro x hx
  simp only [sentsPostUnlike, List.mem_cons, List.not_mem_nil, or_false] at hx
  rcases hx with rfl | rfl | rfl | rfl | rfl
  · exact ⟨by kernel_rfl, by kernel_rfl⟩
  · exact ⟨by kernel_rfl, by kernel_rfl⟩
  · exact ⟨by kernel_rfl, by kernel_rfl⟩
  · exact ⟨by kernel_rfl, by kernel_rfl⟩
  · exact ⟨by kernel_rfl, by kernel_rfl⟩
set_option maxRecDepth 100000 in
theorem postUnlike_walk : LawWalk 21 Tryd.f21 (sentsPostUnlike.map (·.2.1)) := by
  intro H enc W base args ds p A hA hval hsz hlt hE
  rw [Tryd.params21] at hA hval hsz
  obtain ⟨v0, vs0, d0, ds0, p0, q0, hargs, rfl, rfl, h0, r0⟩ := trodAll_cons hA
  obtain ⟨v1, vs1, d1, ds1, p1, q1, hargs1, rfl, rfl, h1, r1⟩ := trodAll_cons r0
  obtain ⟨rfl, rfl, rfl⟩ := trodAll_nil r1
  obtain rfl : args = #[v0, v1] := by cases args; simp_all
  have hl0 : Light 143 d0 := light_of_each (j := 0) hsz rfl rfl
  have hl1 : Light 143 d1 := light_of_each (j := 1) hsz rfl rfl
  obtain ⟨cs0, rfl, _⟩ := okWide_struct Tryd.underlying143 (hval 0 143 v0 rfl rfl)
  obtain ⟨cs1, rfl, _⟩ := okWide_struct Tryd.underlying143 (hval 1 143 v1 rfl rfl)
  obtain ⟨f0, h0⟩ := h0
  obtain ⟨f1, h1⟩ := h1
  obtain ⟨m, lv, fv, hcm, hM⟩ := open_msg h0 hl0
  obtain ⟨m', lv', fv', hcm', hM'⟩ := open_msg h1 hl1
  have e0 : cs0 = (m.cells lv fv).toArray := by
    have e : (Value.agg cs0).cells.toList = cs0.toList := rfl
    rw [e] at hcm
    rw [← Array.toArray_toList (xs := cs0), hcm]
  have e1 : cs1 = (m'.cells lv' fv').toArray := by
    have e : (Value.agg cs1).cells.toList = cs1.toList := rfl
    rw [e] at hcm'
    rw [← Array.toArray_toList (xs := cs1), hcm']
  subst e0 e1
  exact punlike_any m m' W 0 W.heap.size 0 W.heap.size lv fv lv' fv' hM hM' (A 1) (A 2) (A 8) (A 12) (hE.cell 1 (by decide)) (hE.cell 2 (by decide)) (hE.cell 8 (by decide)) (hE.cell 12 (by decide))
end Go.Proofs.YtnlncfjibbdimaaDoor
