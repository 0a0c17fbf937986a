/-
  CommandForms: the walk.
-/
import Derived.Test.YtnlncfjibbdimaaDoorGetG
import Derived.Test.YtnlncfjibbdimaaDoorPutLen
import Derived.Deep.RegionHeld3
import Derived.Deep.MidRow
import Derived.Test.YtnlncfjibbdimaaDoorInLaw
import Derived.Test.YtnlncfjibbdimaaDoorSameC
import Derived.Test.YtnlncfjibbdimaaDoorAlive10
import Derived.Test.YtnlncfjibbdimaaDoorRCopy
import Derived.Test.YtnlncfjibbdimaaDoorErrs
namespace Go.Proofs.YtnlncfjibbdimaaDoor
open Go.RowKit
set_option linter.unusedSimpArgs false
set_option linter.unusedVariables false

theorem LedAt.single {w : World} {lo hi : Nat} {pv : Value} (g : Nat) (c : Cmd) (h : Blk w g 81 (c.cells pv).toArray) (hp : IntsAt w lo hi pv c.parts) (hhi : hi ≤ w.heap.size) : LedAt w 0 w.heap.size (.slice (some ⟨g, 0, none⟩) 1 1) [c] := by
  refine ⟨some ⟨g, 0, none⟩, 1, [c.cells pv], rfl, by simp, by simp [maxLen], by simp, ⟨rfl, fun _ => ⟨_, rfl, Nat.zero_le _, h.lt, fun j u hu => ?_⟩⟩, rfl, fun i r c' h1 h2 => ?_⟩
  · rw [Addr.add_mid]; exact h.range j u (by simpa using hu)
  · have hi : i = 0 := by
      have := (List.getElem?_eq_some_iff.1 h1).1
      simpa using this
    subst hi
    simp at h1 h2
    subst h1 h2
    exact ⟨_, rfl, hp.wider (Nat.zero_le _) hhi⟩

def FSt (w : World) (x z : Nat) (c : Cmd) (pv pv4 : Value) (W : World) : Prop := Below w.heap.size w W ∧ Blk W x 81 (c.cells pv).toArray ∧ Blk W z 81 (c.cells pv4).toArray ∧ IntsAt W 0 z pv c.parts ∧ IntsAt W 0 z pv4 c.parts
theorem FSt.below {w W W' : World} {x z : Nat} {c : Cmd} {pv pv4 : Value} (h : FSt w x z c pv pv4 W) (b : Below W.heap.size W W') : FSt w x z c pv pv4 W' :=
  ⟨h.1.trans (b.mono h.1.size), h.2.1.below b h.2.1.lt, h.2.2.1.below b h.2.2.1.lt, h.2.2.2.1.fr (Fr.of_below b (fun _ => False)) (Nat.le_of_lt h.2.2.1.lt) (fun _ _ _ h => h), h.2.2.2.2.fr (Fr.of_below b (fun _ => False)) (Nat.le_of_lt h.2.2.1.lt) (fun _ _ _ h => h)⟩

theorem wpAnyH_mono {P : Program} {md : Region.Mode} {ops : Array Oper} {Q : Exit → Act → World → Prop} {S S' : World → Prop} (h : ∀ w, S' w → S w) : ∀ (fuel : Nat) (listed : Array Bool) (a : Act) (w : World), wpAnyH P md ops Q S' fuel listed a w → wpAnyH P md ops Q S fuel listed a w
  | 0, _, _, _, h' => h'
  | fuel + 1, _, _, _, h' => ⟨h'.1, fun i hi => wpOp_mono (fun a' w' hh => ⟨h w' hh.1, wpAnyH_mono h fuel _ a' w' hh.2⟩) (h'.2 i hi)⟩

theorem ownA {W : World} {lo c n : Nat} {A : Option Addr} {bs : List Nat} (h : OwnB W lo (.slice A n c) bs) : A = none → c = 0 := fun hA => by
  subst hA
  rcases h.2.2.2 with ⟨h1, _⟩ | ⟨_, _, _, h1, _⟩
  · injection h1
  · injection h1 with h1
    cases h1

set_option maxRecDepth 100000 in
set_option maxHeartbeats 6400000 in
theorem forms_any (c : Cmd) (hz : c.Sized) (w : World) (lo hi : Nat) (pv : Value) (hp : IntsAt w lo hi pv c.parts) (hhi : hi ≤ w.heap.size) (a1 : Addr) (h1 : w.cell? ⟨1, 0, none⟩ = some (errv a1)) :
    Calls Tryd.prog 8 #[.agg (c.cells pv).toArray] w fun e w' => e = .returned (.bool true) ∧ Below w.heap.size w w' := by
  have h00 := World.block_lt_of_cell? w _ h1
  obtain ⟨i1, z1, hi1, hz11, hz12, hz13, hz14⟩ := cmd_info'
  obtain ⟨A0, c0, hpv, _⟩ := id hp
  have hone : (c.cells pv).toArray.all (·.oneCell') = true := by rw [hpv]; exact cells_oneCell _ _ _ _
  have HZ := Lib.hid (And.intro hz (And.intro hp (And.intro hhi (And.intro h1 hone))))
  clear hpv hone hp h1 hhi hz
  go_enter Tryd.func8, Tryd.ntmps8
  go_upto_region 3 with (first | (go_at_call 35; refine (alive10_any _).mono ?_; rintro e w1 ⟨rfl, b1⟩) | fail)
  have hX := (Blk.new w 81 (c.cells pv).toArray).below b1 (by simp)
  have hb : Below w.heap.size w w1 := ((Below.refl w.heap.size w).alloc (Nat.le_refl _) _).trans (b1.mono (by simp))
  obtain ⟨x, hx⟩ : ∃ x, x = w.heap.size := ⟨_, rfl⟩
  rw [← hx] at hX ⊢
  have hrX := hX.range
  have hp1 := HZ.out.2.1.fr (Fr.of_below hb (fun _ => False)) HZ.out.2.2.1 (fun _ _ _ h => h)
  have hhi1 := Nat.le_trans HZ.out.2.2.1 hb.size
  have k42 := rcopy_any (w1.alloc (.cells (c.cells pv).toArray 81)) 0 (w1.alloc (.cells (c.cells pv).toArray 81)).heap.size _ [c]
    (LedAt.single w1.heap.size c (Blk.new w1 81 _) (hp1.fr (Fr.of_below ((Below.refl w1.heap.size w1).alloc (Nat.le_refl _) _) (fun _ => False)) hhi1 (fun _ _ _ h => h)) (by simp; omega)) (Nat.le_refl _)
  have H1 := Lib.hid (And.intro hb (And.intro hX (And.intro hp1 (And.intro hhi1 hx))))
  have HK42 := Lib.hid k42
  clear b1 hX hb hx hp1 hhi1 k42
  go_upto_region 4 with (first
    | ((with_reducible refine law_load 81 (.tmp 1) x 0 (c.cells pv) ?_ hrX Tryd.underlying81 ?_ ?_ ?_); rfl; rfl; exact cmd_info)
    | ((with_reducible refine law_buildSlice1 46 81 (.tmp 11) i1 z1 (c.cells pv).toArray 18 ?_ Tryd.underlying46 hi1 hz11 hz12 hz14 ?_ (by decide) (by decide) ?_); rfl; rfl)
    | fail)
  refine HK42.out.mono ?_
  rintro e w3 ⟨v3, rfl, o3, b3⟩
  obtain ⟨A3, c3, hv3, _⟩ := o3.at_.form
  subst hv3
  obtain ⟨b4, o4, pv4, rfl, hlo4, hhi4, hr4, hp4⟩ := o3.at_.range (i := 0) (c := c) rfl
  simp only [Nat.zero_mul, Nat.add_zero] at hr4
  obtain ⟨A5, c5, hpv4, _⟩ := id hp4
  have hone4 : (c.cells pv4).toArray.all (·.oneCell') = true := by rw [hpv4]; exact cells_oneCell _ _ _ _
  have H3 := Lib.hid (And.intro b3 (And.intro hp4 hone4))
  clear HK42 o3 b3 hp4 hpv4 hone4
  go_upto_region 4 with (first
    | ((with_reducible refine law_load 81 (.tmp 14) b4 o4 (c.cells pv4) ?_ hr4 Tryd.underlying81 ?_ ?_ ?_); rfl; rfl; exact cmd_info)
    | ((with_reducible refine law_store_fresh 81 (.tmp 3) (.tmp 15) w3 81 _ (c.cells pv4).toArray ?_ ?_ rfl ?_ ?_ H3.out.2.2 ?_); rfl; rfl; exact cmd_info; rfl)
    | fail)
  have hs3 : w1.heap.size ≤ w3.heap.size := by have := H3.out.1.size; simp at this; omega
  have hlt0 := H1.out.2.1.lt
  refine wp_letter (fun W => FSt w x w3.heap.size c pv pv4 W)
    ⟨(H1.out.1.trans ((((Below.refl w1.heap.size w1).alloc (Nat.le_refl _) _).trans (H3.out.1.mono (by simp))).mono H1.out.1.size)).alloc (Nat.le_trans H1.out.1.size hs3) _,
      (H1.out.2.1.below (((Below.refl w1.heap.size w1).alloc (Nat.le_refl _) (.cells (c.cells pv).toArray 81)).trans (H3.out.1.mono (by simp))) hlt0).alloc _, Blk.new w3 81 _,
      ((H1.out.2.2.1.fr (Fr.of_below (((Below.refl w1.heap.size w1).alloc (Nat.le_refl _) (.cells (c.cells pv).toArray 81)).trans (H3.out.1.mono (by simp))) (fun _ => False)) H1.out.2.2.2.1 (fun _ _ _ h => h)).wider (Nat.zero_le _) (Nat.le_trans H1.out.2.2.2.1 hs3)).fr (Fr.of_below ((Below.refl w3.heap.size w3).alloc (Nat.le_refl _) _) (fun _ => False)) (Nat.le_refl _) (fun _ _ _ h => h),
      (H3.out.2.1.wider (Nat.zero_le _) (Nat.le_refl _)).fr (Fr.of_below ((Below.refl w3.heap.size w3).alloc (Nat.le_refl _) _) (fun _ => False)) (Nat.le_refl _) (fun _ _ _ h => h)⟩ ?_
  obtain ⟨z, hzz⟩ : ∃ z, z = w3.heap.size := ⟨_, rfl⟩
  rw [← hzz]
  rintro W4 hS
  have S4 := Lib.hid hS
  have hG : ∀ W, Below w.heap.size w W → W.cell? ⟨1, 0, none⟩ = some (errv a1) := fun W b => (b.cell h00).trans HZ.out.2.2.2.1
  have G1 := Lib.hid hG
  clear hS hG hzz hs3 hlt0 hrX hr4 H1 H3
  cases hc : chkB c with
  | false =>
    have HC := Lib.hid hc
    clear hc
    have hr4 := S4.out.2.2.1.range
    go_upto_region 5 with (first | ((with_reducible refine law_load 81 (.tmp 3) z 0 (c.cells pv4) ?_ hr4 Tryd.underlying81 ?_ ?_ ?_); rfl; rfl; exact cmd_info) | fail)
    have k43 := check_any c HZ.out.1 W4 0 z pv4 S4.out.2.2.2.2 (Nat.le_of_lt S4.out.2.2.1.lt) a1 (G1.out W4 S4.out.1)
    rw [HC.out] at k43
    refine k43.mono ?_
    rintro e w5 ⟨rfl, b5⟩
    rw [if_neg (by decide)]
    have S5 := Lib.hid (S4.out.below b5)
    clear b5 hr4 k43
    have hr5 := S5.out.2.2.1.range
    go_upto_region 6 with (first | ((with_reducible refine law_load 81 (.tmp 3) z 0 (c.cells pv4) ?_ hr5 Tryd.underlying81 ?_ ?_ ?_); rfl; rfl; exact cmd_info) | fail)
    have k44 := put_any8 c HZ.out.1 w5 0 z pv4 S5.out.2.2.2.2 (Nat.le_of_lt S5.out.2.2.1.lt) a1 (G1.out w5 S5.out.1)
    refine k44.mono ?_
    rintro e w6 ⟨h6, _⟩
    obtain ⟨rfl, b6⟩ := h6 HC.out
    have S6 := Lib.hid (S5.out.below b6)
    clear b6 hr5 k44
    have hr6 := S6.out.2.2.1.range
    have hx6 := S6.out.2.1.range
    go_upto_region 8 with (first | ((with_reducible refine law_load 81 (.tmp 3) z 0 (c.cells pv4) ?_ hr6 Tryd.underlying81 ?_ ?_ ?_); rfl; rfl; exact cmd_info) | ((with_reducible refine law_load 81 (.tmp 1) x 0 (c.cells pv) ?_ hx6 Tryd.underlying81 ?_ ?_ ?_); rfl; rfl; exact cmd_info) | fail)
    have k45 := sameCommand_any w6 0 z 0 z pv4 pv c c S6.out.2.2.2.2 S6.out.2.2.2.1 (Nat.le_of_lt S6.out.2.2.1.lt) (Nat.le_of_lt S6.out.2.2.1.lt)
    rw [tf_true rfl] at k45
    refine k45.mono ?_
    rintro e w7 ⟨rfl, b7⟩
    have S7 := Lib.hid (S6.out.below b7)
    clear b7 hr6 hx6 k45
    have hx7 := S7.out.2.1.range
    go_upto_region 8 with (fail)
    go_upto_region 9 with (first | ((with_reducible refine law_load 81 (.tmp 1) x 0 (c.cells pv) ?_ hx7 Tryd.underlying81 ?_ ?_ ?_); rfl; rfl; exact cmd_info) | fail)
    have k46 := inForm_any c HZ.out.1 w7 0 z pv S7.out.2.2.2.1 (Nat.le_of_lt S7.out.2.2.1.lt)
    rw [in_chk, HC.out] at k46
    refine k46.mono ?_
    rintro e w8 ⟨rfl, b8⟩
    have S8 := Lib.hid (S7.out.below b8)
    clear b8 hx7 k46
    have cE := G1.out w8 S8.out.1
    have hee := errEq_same a1
    go_wp2_with (fail)
    go_ret
    exact ⟨rfl, S8.out.1⟩
  | true =>
    have HC := Lib.hid hc
    clear hc
    have hr4 := S4.out.2.2.1.range
    go_upto_region 5 with (first | ((with_reducible refine law_load 81 (.tmp 3) z 0 (c.cells pv4) ?_ hr4 Tryd.underlying81 ?_ ?_ ?_); rfl; rfl; exact cmd_info) | fail)
    have k43 := check_any c HZ.out.1 W4 0 z pv4 S4.out.2.2.2.2 (Nat.le_of_lt S4.out.2.2.1.lt) a1 (G1.out W4 S4.out.1)
    rw [HC.out] at k43
    refine k43.mono ?_
    rintro e w5 ⟨rfl, b5⟩
    rw [if_pos rfl]
    have S5 := Lib.hid (S4.out.below b5)
    clear b5 hr4 k43
    have hr5 := S5.out.2.2.1.range
    go_upto_region 6 with (first | ((with_reducible refine law_load 81 (.tmp 3) z 0 (c.cells pv4) ?_ hr5 Tryd.underlying81 ?_ ?_ ?_); rfl; rfl; exact cmd_info) | fail)
    have k44 := put_any8 c HZ.out.1 w5 0 z pv4 S5.out.2.2.2.2 (Nat.le_of_lt S5.out.2.2.1.lt) a1 (G1.out w5 S5.out.1)
    refine k44.mono ?_
    rintro e w6 ⟨_, h6⟩
    obtain ⟨A6, c6, rfl, o6, b6⟩ := h6 HC.out
    obtain ⟨n6, hn6⟩ : ∃ n, n = (putN c).length := ⟨_, rfl⟩
    rw [← hn6]
    have O6 := Lib.hid (And.intro o6 (And.intro b6 hn6))
    clear o6 hn6 h6
    have S6 := Lib.hid (S5.out.below b6)
    clear b6 hr5 k44
    have hr6 := S6.out.2.2.1.range
    have hx6 := S6.out.2.1.range
    go_upto_region 8 with (first | ((with_reducible refine law_load 81 (.tmp 3) z 0 (c.cells pv4) ?_ hr6 Tryd.underlying81 ?_ ?_ ?_); rfl; rfl; exact cmd_info) | ((with_reducible refine law_load 81 (.tmp 1) x 0 (c.cells pv) ?_ hx6 Tryd.underlying81 ?_ ?_ ?_); rfl; rfl; exact cmd_info) | fail)
    have k45 := sameCommand_any w6 0 z 0 z pv4 pv c c S6.out.2.2.2.2 S6.out.2.2.2.1 (Nat.le_of_lt S6.out.2.2.1.lt) (Nat.le_of_lt S6.out.2.2.1.lt)
    rw [tf_true rfl] at k45
    refine k45.mono ?_
    rintro e w7 ⟨rfl, b7⟩
    have S7 := Lib.hid (S6.out.below b7)
    have B7 := Lib.hid b7
    clear b7 hr6 hx6 k45
    have hx7 := S7.out.2.1.range
    go_upto_region 8 with (fail)
    go_upto_region 10 with (first | ((with_reducible refine law_load 81 (.tmp 1) x 0 (c.cells pv) ?_ hx7 Tryd.underlying81 ?_ ?_ ?_); rfl; rfl; exact cmd_info) | fail)
    have k46 := inForm_any c HZ.out.1 w7 0 z pv S7.out.2.2.2.1 (Nat.le_of_lt S7.out.2.2.1.lt)
    rw [in_chk, HC.out] at k46
    refine k46.mono ?_
    rintro e w8 ⟨rfl, b8⟩
    have S8 := Lib.hid (S7.out.below b8)
    have B8 := Lib.hid b8
    clear b8 hx7 k46
    go_upto_region 10 with (fail)
    have HLN := Lib.hid (And.intro (Lens.of (chk_rng HC.out)) (chk_rng HC.out).parts.1)
    have hplen := putN_len c HLN.out.1 HLN.out.2
    have hppos : 0 < (putN c).length := by
      have : (encI c.days).length ≤ (putN c).length := by unfold putN; simp only [List.length_append]; omega
      have := enc_pos c.days.toNat
      have e : (encI c.days).length = (enc c.days.toNat).length := rfl
      omega
    have hrd6 := Rd.of_own O6.out.1.1 (fun g hg => (O6.out.1.1.lt g hg).2)
    have hrd8 := ((hrd6.fr (Fr.of_below B7.out (fun _ => False)) (Nat.le_refl _) (fun _ _ _ h => h)).fr (Fr.of_below B8.out (fun _ => False)) B7.out.size (fun _ _ _ h => h)).wider (Nat.zero_le _) (Nat.le_trans B7.out.size B8.out.size)
    obtain ⟨ad, rfl, _⟩ := hrd8.2 hppos
    have k47 := get_good c HZ.out.1 HC.out HLN.out.1 HLN.out.2 w8 ad c6 (by omega) (putN_byte c) hrd8 a1 (G1.out w8 S8.out.1)
    rw [← O6.out.2.2] at k47
    have HRD := Lib.hid hrd8
    have HK47 := Lib.hid k47
    clear hplen hppos hrd6 hrd8 k47
    go_upto_region 11 with (fail)
    refine HK47.out.mono ?_
    rintro e w9 ⟨pv9, rfl, o9, b9⟩
    obtain ⟨A9, c9, hp9, _⟩ := OwnRow.form o9.1
    have hone9 : (c.cells pv9).toArray.all (·.oneCell') = true := by rw [hp9]; exact cells_oneCell _ _ _ _
    have H9 := Lib.hid (And.intro o9 (And.intro b9 hone9))
    clear o9 b9 hone9 hp9 HK47
    go_upto_region 11 with (first
      | ((with_reducible refine law_store_fresh 81 (.tmp 7) (.tmp 46) w9 81 _ (c.cells pv9).toArray ?_ ?_ rfl ?_ ?_ H9.out.2.2 ?_); rfl; rfl; exact cmd_info; rfl)
      | fail)
    have bA : Below w8.heap.size w8 (w9.alloc (.cells (c.cells pv9).toArray 81)) := H9.out.2.1.alloc H9.out.2.1.size _
    have SA := Lib.hid (S8.out.below bA)
    have hYA := Blk.new w9 81 (c.cells pv9).toArray
    have hpA := (H9.out.1.at_.wider (Nat.zero_le _) (Nat.le_refl _)).fr (Fr.of_below ((Below.refl w9.heap.size w9).alloc (Nat.le_refl _) (.cells (c.cells pv9).toArray 81)) (fun _ => False)) (Nat.le_refl _) (fun _ _ _ h => h)
    have hrdA := (HRD.out.fr (Fr.of_below bA (fun _ => False)) (Nat.le_refl _) (fun _ _ _ h => h)).wider (Nat.le_refl _) bA.size
    refine wp_letter (fun W => FSt w x z c pv pv4 W ∧ Blk W w9.heap.size 81 (c.cells pv9).toArray ∧ IntsAt W 0 w9.heap.size pv9 c.parts ∧ Rd W 0 W.heap.size 1 (some ad) (putN c).length (u8s (putN c))) ⟨SA.out, hYA, hpA, hrdA⟩ ?_
    obtain ⟨y, hy⟩ : ∃ y, y = w9.heap.size := ⟨_, rfl⟩
    rw [← hy]
    clear bA hYA hpA hrdA SA HRD H9 hy S4 S5 S6 S7 S8 B7 B8
    rintro W5 ⟨hS, hY, hpy, hrd⟩
    have hd : Below W5.heap.size W5 W5.drew := (Below.refl W5.heap.size W5).drew
    have k48 := rput_any c HLN.out.1 HLN.out.2 W5.drew 0 z pv (hS.below hd).2.2.2.1 (Nat.le_of_lt hS.2.2.1.lt)
    obtain ⟨S1, hS1⟩ : ∃ S : World → Prop, S = fun w' => w'.rangeAt x 0 (c.cells pv) ∧ w'.rangeAt y 0 (c.cells pv9) ∧ (convert 84 9 (.slice (some ad) n6 c6)).run Tryd.prog w' = .ok (.string (putS c)) w' := ⟨_, rfl⟩
    have hP1 : ∀ w', S1 w' → w'.rangeAt x 0 (c.cells pv) := fun w' h => by rw [hS1] at h; exact h.1
    have hP2 : ∀ w', S1 w' → w'.rangeAt y 0 (c.cells pv9) := fun w' h => by rw [hS1] at h; exact h.2.1
    have hP3 : ∀ w', S1 w' → (convert 84 9 (.slice (some ad) n6 c6)).run Tryd.prog w' = .ok (.string (putS c)) w' := fun w' h => by rw [hS1] at h; exact h.2.2
    have hmk : ∀ w', Below W5.heap.size W5 w' → S1 w' := fun w' b => by
      rw [hS1]
      exact ⟨(hS.2.1.below b hS.2.1.lt).range, (hY.below b hY.lt).range, conv_put (W := w') c O6.out.2.2 (hrd.fr (Fr.of_below b (fun _ => False)) (Nat.le_refl _) (fun _ _ _ h => h)) (fun h => by cases h)⟩
    have hSd : S1 W5.drew := hmk _ hd
    have HS := Lib.hid (And.intro hS (And.intro hY (And.intro hpy hrd)))
    have HK48 := Lib.hid k48
    have HP := Lib.hid (And.intro hP1 (And.intro hP2 (And.intro hP3 hmk)))
    clear hS hY hpy hrd hd k48 hS1 hP1 hP2 hP3 hmk
    refine wp_region_held_drew (S := S1) (by kernel_rfl) hSd (fun _ => ?_)
    refine wpAnyH_take (i := 0) (v := .nilIface) rfl (by kernel_rfl) (by kernel_rfl) (by kernel_rfl) (fun _ _ _ h => h) (Or.inl ⟨by kernel_rfl, fun w' hSw => ?_⟩) hSd ?_
    · go_simp
    simp only [List.getElem_toArray, List.getElem_cons_succ, List.getElem_cons_zero, Act.put, List.setIfInBounds_toArray, List.set_cons_zero, List.set_cons_succ]
    refine wpAnyH_take (i := 1) (v := .bool true) rfl (by kernel_rfl) (by kernel_rfl) (by kernel_rfl) (fun _ _ _ h => h) (Or.inl ⟨by kernel_rfl, fun w' hSw => ?_⟩) hSd ?_
    · go_simp
    simp only [List.getElem_toArray, List.getElem_cons_succ, List.getElem_cons_zero, Act.put, List.setIfInBounds_toArray, List.set_cons_zero, List.set_cons_succ]
    refine wpAnyH_take (i := 2) (v := .bool true) rfl (by kernel_rfl) (by kernel_rfl) (by kernel_rfl) (fun _ _ _ h => h) (Or.inl ⟨by kernel_rfl, fun w' hSw => ?_⟩) hSd ?_
    · go_simp
    simp only [List.getElem_toArray, List.getElem_cons_succ, List.getElem_cons_zero, Act.put, List.setIfInBounds_toArray, List.set_cons_zero, List.set_cons_succ]
    refine wpAnyH_take (i := 3) (v := .nilIface) rfl (by kernel_rfl) (by kernel_rfl) (by kernel_rfl) (fun _ _ _ h => h) (Or.inl ⟨by kernel_rfl, fun w' hSw => ?_⟩) hSd ?_
    · go_simp
    simp only [List.getElem_toArray, List.getElem_cons_succ, List.getElem_cons_zero, Act.put, List.setIfInBounds_toArray, List.set_cons_zero, List.set_cons_succ]
    refine wpAnyH_take (i := 4) (v := .bool true) rfl (by kernel_rfl) (by kernel_rfl) (by kernel_rfl) (fun _ _ _ h => h) (Or.inl ⟨by kernel_rfl, fun w' hSw => ?_⟩) hSd ?_
    · go_simp
    simp only [List.getElem_toArray, List.getElem_cons_succ, List.getElem_cons_zero, Act.put, List.setIfInBounds_toArray, List.set_cons_zero, List.set_cons_succ]
    refine wpAnyH_take (i := 5) (v := .bool true) rfl (by kernel_rfl) (by kernel_rfl) (by kernel_rfl) (fun _ _ _ h => h) (Or.inl ⟨by kernel_rfl, fun w' hSw => ?_⟩) hSd ?_
    · go_simp
    simp only [List.getElem_toArray, List.getElem_cons_succ, List.getElem_cons_zero, Act.put, List.setIfInBounds_toArray, List.set_cons_zero, List.set_cons_succ]
    refine wpAnyH_take (i := 6) (v := .bool true) rfl (by kernel_rfl) (by kernel_rfl) (by kernel_rfl) (fun _ _ _ h => h) (Or.inl ⟨by kernel_rfl, fun w' hSw => ?_⟩) hSd ?_
    · go_simp
    simp only [List.getElem_toArray, List.getElem_cons_succ, List.getElem_cons_zero, Act.put, List.setIfInBounds_toArray, List.set_cons_zero, List.set_cons_succ]
    refine wpAnyH_take (i := 7) (v := .slice (some ad) n6 c6) rfl (by kernel_rfl) (by kernel_rfl) (by kernel_rfl) (fun _ _ _ h => h) (Or.inl ⟨by kernel_rfl, fun w' hSw => ?_⟩) hSd ?_
    · go_simp
    simp only [List.getElem_toArray, List.getElem_cons_succ, List.getElem_cons_zero, Act.put, List.setIfInBounds_toArray, List.set_cons_zero, List.set_cons_succ]
    refine wpAnyH_take (i := 8) (v := .string (putS c)) rfl (by kernel_rfl) (by kernel_rfl) (by kernel_rfl) (fun _ _ _ h => h) (Or.inl ⟨by kernel_rfl, fun w' hSw => ?_⟩) hSd ?_
    · (have hcv := HP.out.2.2.1 w' hSw; go_simp)
    simp only [List.getElem_toArray, List.getElem_cons_succ, List.getElem_cons_zero, Act.put, List.setIfInBounds_toArray, List.set_cons_zero, List.set_cons_succ]
    refine wpAnyH_take (i := 9) (v := .agg (c.cells pv).toArray) rfl (by kernel_rfl) (by kernel_rfl) (by kernel_rfl) (fun _ _ _ h => h) ?_ hSd ?_
    · refine yieldsIf_load_mid ?_ 81 (.tmp 1) ?_ x 0 ?_ (c.cells pv) _ HP.out.1 Tryd.underlying81 ?_ cmd_info
      · kernel_rfl
      · rfl
      · kernel_rfl
      · rfl
    simp only [List.getElem_toArray, List.getElem_cons_succ, List.getElem_cons_zero, Act.put, List.setIfInBounds_toArray, List.set_cons_zero, List.set_cons_succ]
    refine wpAnyH_ready (rs := [10]) (by kernel_rfl) (by simp) ?_
    refine AllReadyH.cons rfl (fun K hK => ?_) AllReadyH.nil
    go_simp
    refine HK48.out.mono ?_
    rintro e w12 ⟨v12, rfl, o12, b12⟩
    obtain ⟨A12, c12, hv12, r12⟩ := o12.rd
    subst hv12
    have b512 : Below W5.heap.size W5 w12 := (Below.refl W5.heap.size W5).drew.trans b12
    have hS12 := HP.out.2.2.2 w12 b512
    refine Shut.out hK _ _ hS12 (fun _ => ?_)
    clear hK K hSd
    obtain ⟨n12, hn12⟩ : ∃ n, n = (putN c).length := ⟨_, rfl⟩
    rw [← hn12]
    obtain ⟨S2, hS2⟩ : ∃ S : World → Prop, S = fun w' => S1 w' ∧ (convert 84 9 (.slice A12 n12 c12)).run Tryd.prog w' = .ok (.string (putS c)) w' := ⟨_, rfl⟩
    have hQ1 : ∀ w', S2 w' → S1 w' := fun w' h => by rw [hS2] at h; exact h.1
    have hQ2 : ∀ w', S2 w' → (convert 84 9 (.slice A12 n12 c12)).run Tryd.prog w' = .ok (.string (putS c)) w' := fun w' h => by rw [hS2] at h; exact h.2
    have hmk2 : ∀ w', Below w12.heap.size w12 w' → S2 w' := fun w' b => by
      rw [hS2]
      exact ⟨HP.out.2.2.2 w' (b512.trans (b.mono b512.size)), conv_put (W := w') c hn12 (r12.fr (Fr.of_below b (fun _ => False)) (Nat.le_refl _) (fun _ _ _ h => h)) (ownA o12)⟩
    have hSe : S2 w12 := hmk2 w12 (Below.refl _ _)
    have k45 := sameCommand_any w12 0 z 0 y pv pv9 c c (HS.out.1.below b512).2.2.2.1 (HS.out.2.2.1.fr (Fr.of_below b512 (fun _ => False)) (Nat.le_of_lt HS.out.2.1.lt) (fun _ _ _ h => h)) (Nat.le_of_lt (HS.out.1.below b512).2.2.1.lt) (Nat.le_of_lt (HS.out.2.1.below b512 HS.out.2.1.lt).lt)
    rw [tf_true (rfl : c = c)] at k45
    have hend : ∀ w', Below w12.heap.size w12 w' → Below w.heap.size w w' := fun w' b => HS.out.1.1.trans ((b512.trans (b.mono b512.size)).mono HS.out.1.1.size)
    refine wpAnyH_mono (S' := S2) hQ1 _ _ _ _ ?_
    have HP2 := Lib.hid (And.intro hQ1 (And.intro hQ2 (And.intro hmk2 (And.intro hend k45))))
    clear hQ1 hQ2 hmk2 hend k45 hS2 o12 b12 r12 b512 hS12 hn12
    refine wpAnyH_take (i := 11) (v := .string (putS c)) rfl (by kernel_rfl) (by kernel_rfl) (by kernel_rfl) (fun _ _ _ h => h) (Or.inl ⟨by kernel_rfl, fun w' hSw => ?_⟩) hSe ?_
    · (have hcv := HP2.out.2.1 w' hSw; go_simp)
    simp only [List.getElem_toArray, List.getElem_cons_succ, List.getElem_cons_zero, Act.put, List.setIfInBounds_toArray, List.set_cons_zero, List.set_cons_succ]
    refine wpAnyH_take (i := 12) (v := .bool true) rfl (by kernel_rfl) (by kernel_rfl) (by kernel_rfl) (fun _ _ _ h => h) (Or.inl ⟨by kernel_rfl, fun w' hSw => ?_⟩) hSe ?_
    · go_simp
    simp only [List.getElem_toArray, List.getElem_cons_succ, List.getElem_cons_zero, Act.put, List.setIfInBounds_toArray, List.set_cons_zero, List.set_cons_succ]
    refine wpAnyH_take (i := 13) (v := .bool true) rfl (by kernel_rfl) (by kernel_rfl) (by kernel_rfl) (fun _ _ _ h => h) (Or.inl ⟨by kernel_rfl, fun w' hSw => ?_⟩) hSe ?_
    · go_simp
    simp only [List.getElem_toArray, List.getElem_cons_succ, List.getElem_cons_zero, Act.put, List.setIfInBounds_toArray, List.set_cons_zero, List.set_cons_succ]
    refine wpAnyH_take (i := 14) (v := .bool true) rfl (by kernel_rfl) (by kernel_rfl) (by kernel_rfl) (fun _ _ _ h => h) (Or.inl ⟨by kernel_rfl, fun w' hSw => ?_⟩) hSe ?_
    · go_simp
    simp only [List.getElem_toArray, List.getElem_cons_succ, List.getElem_cons_zero, Act.put, List.setIfInBounds_toArray, List.set_cons_zero, List.set_cons_succ]
    refine wpAnyH_take (i := 15) (v := .nilIface) rfl (by kernel_rfl) (by kernel_rfl) (by kernel_rfl) (fun _ _ _ h => h) (Or.inl ⟨by kernel_rfl, fun w' hSw => ?_⟩) hSe ?_
    · go_simp
    simp only [List.getElem_toArray, List.getElem_cons_succ, List.getElem_cons_zero, Act.put, List.setIfInBounds_toArray, List.set_cons_zero, List.set_cons_succ]
    refine wpAnyH_take (i := 16) (v := .bool true) rfl (by kernel_rfl) (by kernel_rfl) (by kernel_rfl) (fun _ _ _ h => h) (Or.inl ⟨by kernel_rfl, fun w' hSw => ?_⟩) hSe ?_
    · go_simp
    simp only [List.getElem_toArray, List.getElem_cons_succ, List.getElem_cons_zero, Act.put, List.setIfInBounds_toArray, List.set_cons_zero, List.set_cons_succ]
    refine wpAnyH_take (i := 17) (v := .bool true) rfl (by kernel_rfl) (by kernel_rfl) (by kernel_rfl) (fun _ _ _ h => h) (Or.inl ⟨by kernel_rfl, fun w' hSw => ?_⟩) hSe ?_
    · go_simp
    simp only [List.getElem_toArray, List.getElem_cons_succ, List.getElem_cons_zero, Act.put, List.setIfInBounds_toArray, List.set_cons_zero, List.set_cons_succ]
    refine wpAnyH_take (i := 18) (v := .bool true) rfl (by kernel_rfl) (by kernel_rfl) (by kernel_rfl) (fun _ _ _ h => h) (Or.inl ⟨by kernel_rfl, fun w' hSw => ?_⟩) hSe ?_
    · go_simp
    simp only [List.getElem_toArray, List.getElem_cons_succ, List.getElem_cons_zero, Act.put, List.setIfInBounds_toArray, List.set_cons_zero, List.set_cons_succ]
    refine wpAnyH_take (i := 19) (v := .agg (c.cells pv).toArray) rfl (by kernel_rfl) (by kernel_rfl) (by kernel_rfl) (fun _ _ _ h => h) ?_ hSe ?_
    · refine yieldsIf_load_mid ?_ 81 (.tmp 1) ?_ x 0 ?_ (c.cells pv) _ (fun w' h => HP.out.1 w' (HP2.out.1 w' h)) Tryd.underlying81 ?_ cmd_info
      · kernel_rfl
      · rfl
      · kernel_rfl
      · rfl
    simp only [List.getElem_toArray, List.getElem_cons_succ, List.getElem_cons_zero, Act.put, List.setIfInBounds_toArray, List.set_cons_zero, List.set_cons_succ]
    refine wpAnyH_take (i := 20) (v := .agg (c.cells pv9).toArray) rfl (by kernel_rfl) (by kernel_rfl) (by kernel_rfl) (fun _ _ _ h => h) ?_ hSe ?_
    · refine yieldsIf_load_mid ?_ 81 (.tmp 7) ?_ y 0 ?_ (c.cells pv9) _ (fun w' h => HP.out.2.1 w' (HP2.out.1 w' h)) Tryd.underlying81 ?_ cmd_info
      · kernel_rfl
      · rfl
      · kernel_rfl
      · rfl
    simp only [List.getElem_toArray, List.getElem_cons_succ, List.getElem_cons_zero, Act.put, List.setIfInBounds_toArray, List.set_cons_zero, List.set_cons_succ]
    refine wpAnyH_ready (rs := [21]) (by kernel_rfl) (by simp) ?_
    refine AllReadyH.cons rfl (fun K hK => ?_) AllReadyH.nil
    go_simp
    refine HP2.out.2.2.2.2.mono ?_
    rintro e w13 ⟨rfl, b13⟩
    have hSf := HP2.out.2.2.1 w13 b13
    refine Shut.out hK _ _ hSf (fun _ => ?_)
    clear hK K hSe
    refine wpAnyH_take (i := 22) (v := .bool true) rfl (by kernel_rfl) (by kernel_rfl) (by kernel_rfl) (fun _ _ _ h => h) (Or.inl ⟨by kernel_rfl, fun w' hSw => ?_⟩) hSf ?_
    · go_simp
    simp only [List.getElem_toArray, List.getElem_cons_succ, List.getElem_cons_zero, Act.put, List.setIfInBounds_toArray, List.set_cons_zero, List.set_cons_succ]
    refine wpAnyH_take (i := 23) (v := .bool true) rfl (by kernel_rfl) (by kernel_rfl) (by kernel_rfl) (fun _ _ _ h => h) (Or.inl ⟨by kernel_rfl, fun w' hSw => ?_⟩) hSf ?_
    · go_simp
    simp only [List.getElem_toArray, List.getElem_cons_succ, List.getElem_cons_zero, Act.put, List.setIfInBounds_toArray, List.set_cons_zero, List.set_cons_succ]
    refine wpAnyH_done (by kernel_rfl) ?_ _
    go_wp2_with (fail)
    go_ret
    exact ⟨rfl, HP2.out.2.2.2.1 w13 b13⟩

end Go.Proofs.YtnlncfjibbdimaaDoor
