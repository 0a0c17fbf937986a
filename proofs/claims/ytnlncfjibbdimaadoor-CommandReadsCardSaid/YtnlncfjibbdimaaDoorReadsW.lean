/-
  CommandReads: the plain law of bytes that a ledger is read from, and the law's walk.
-/
import Derived.Test.YtnlncfjibbdimaaDoorRRead
import Derived.Test.YtnlncfjibbdimaaDoorGetsW
import Derived.Test.YtnlncfjibbdimaaDoorSameL
import Derived.Test.YtnlncfjibbdimaaDoorNum
namespace Go.Proofs.YtnlncfjibbdimaaDoor
open Go.RowKit
set_option linter.unusedSimpArgs false
set_option linter.unusedVariables false

theorem pPiece_inv {R r one : List Nat} (hR : ∀ x ∈ R, x < 256) (h : pPiece R = some (one, r)) : R = enc one.length ++ one ++ r ∧ (∀ x ∈ one, x < 256) ∧ ∀ x ∈ r, x < 256 := by
  unfold pPiece at h
  cases hd : dec R with
  | none => rw [hd] at h; cases h
  | some y =>
    obtain ⟨n, r1⟩ := y
    rw [hd] at h
    simp only at h
    split at h
    · rename_i hn
      injection h with h
      injection h with e1 e2
      have hr := dec_rest hR hd
      refine ⟨?_, fun x hx => hr x (by rw [← e1] at hx; exact List.mem_of_mem_take hx), fun x hx => hr x (by rw [← e2] at hx; exact List.mem_of_mem_drop hx)⟩
      rw [dec_inv hR hd, ← e1, ← e2, List.length_take, Nat.min_eq_left hn, List.append_assoc, List.take_append_drop]
    · cases h
theorem gcmd_all {one : List Nat} {c : Cmd} (h1 : ∀ x ∈ one, x < 256) (h : gcmd one = some c) : one = putN c ∧ chkB c = true ∧ c.Sized := by
  obtain ⟨hp, hk⟩ := gcmd_inv h
  have := (pCmd_inv h1 hp).1
  exact ⟨pCmd_put h1 hp hk, hk, by simp only [maxLen]; omega, by simp only [maxLen]; omega, by simp only [maxLen]; omega⟩
theorem pCmds_inv : ∀ (k : Nat) {R r : List Nat} {l : List Cmd}, (∀ x ∈ R, x < 256) → pCmds k R = some (l, r) → R = l.flatMap pieceN ++ r ∧ l.length = k ∧ ∀ c ∈ l, chkB c = true ∧ c.Sized
  | 0, R, r, l, _, h => by
    injection h with h
    injection h with e1 e2
    subst e1 e2
    exact ⟨rfl, rfl, fun c hc => by cases hc⟩
  | k + 1, R, r, l, hR, h => by
    obtain ⟨⟨one, r1⟩, hp, h⟩ := bind_some_inv h
    obtain ⟨c, hc, h⟩ := bind_some_inv h
    obtain ⟨⟨l2, r2⟩, hl, h⟩ := bind_some_inv h
    injection h with h
    injection h with e1 e2
    obtain ⟨g1, g2, g3⟩ := pPiece_inv hR hp
    obtain ⟨q1, q2, q3⟩ := gcmd_all g2 hc
    obtain ⟨i1, i2, i3⟩ := pCmds_inv k g3 hl
    subst e1
    simp only at e2 i1
    subst e2
    refine ⟨?_, by simp [i2], fun d hd => ?_⟩
    · rw [g1, i1, List.flatMap_cons, q1, pieceN, List.append_assoc (enc _ ++ putN c)]
    · rcases List.mem_cons.1 hd with rfl | hd
      · exact ⟨q2, q3⟩
      · exact i3 d hd
/-- What was read is written as it was. -/
theorem rdLed_inv {xs : List Nat} {l : List Cmd} (h256 : ∀ x ∈ xs, x < 256) (h : rdLed xs = some l) : ledN l = xs ∧ l.length ≤ 4096 ∧ (∀ c ∈ l, chkB c = true) ∧ ∀ c ∈ l, c.Sized := by
  unfold rdLed at h
  cases hd : dec xs with
  | none => rw [hd] at h; cases h
  | some y =>
    obtain ⟨n, r⟩ := y
    rw [hd] at h
    simp only at h
    split at h
    · rename_i hn
      obtain ⟨⟨l2, r2⟩, hp, h⟩ := bind_some_inv h
      simp only at h
      split at h
      · rename_i h0
        injection h with h
        subst h h0
        obtain ⟨i1, i2, i3⟩ := pCmds_inv n (dec_rest h256 hd) hp
        rw [List.append_nil] at i1
        exact ⟨by rw [ledN, i2, ← i1, ← dec_inv h256 hd], by omega, fun c hc => (i3 c hc).1, fun c hc => (i3 c hc).2⟩
      · cases h
    · cases h

/-- What both Reads answer: the number of the error and the ledger. -/
def rans (bs : List Nat) : Nat × List Cmd :=
  if bs.length < 4 then (5, []) else if sealN (bs.take (bs.length - 4)) = bs then
    match rdLed (bs.take (bs.length - 4)) with
    | none => (5, [])
    | some l => (0, l)
  else (6, [])
def rerr (a2 a8 : Addr) (k : Nat) : Value := if k = 0 then .nilIface else if k = 5 then errv a2 else errv a8
theorem rans_seal (xs : List Nat) : rans (sealN xs) = match rdLed xs with | none => (5, []) | some l => (0, l) := by
  have e : (sealN xs).take ((sealN xs).length - 4) = xs := by
    rw [sealN_length, Nat.add_sub_cancel, sealN, List.take_left]
  unfold rans
  rw [e, if_neg (by rw [sealN_length]; omega), if_pos rfl]
theorem rans_few {bs : List Nat} (h : bs.length < 4) : rans bs = (5, []) := by unfold rans; rw [if_pos h]
theorem rans_sum {bs : List Nat} (h : 4 ≤ bs.length) (h2 : ¬ sealN (bs.take (bs.length - 4)) = bs) : rans bs = (6, []) := by unfold rans; rw [if_neg (by omega), if_neg h2]
theorem rans_good {bs : List Nat} (h256 : ∀ x ∈ bs, x < 256) (h : (rans bs).1 = 0) : sealN (ledN (rans bs).2) = bs ∧ (rans bs).2.length ≤ 4096 ∧ (∀ c ∈ (rans bs).2, chkB c = true) ∧ ∀ c ∈ (rans bs).2, c.Sized := by
  by_cases h4 : bs.length < 4
  · rw [rans_few h4] at h; cases h
  · by_cases hs : sealN (bs.take (bs.length - 4)) = bs
    · obtain ⟨xs, hx⟩ : ∃ xs, xs = bs.take (bs.length - 4) := ⟨_, rfl⟩
      rw [← hx] at hs
      have hx256 : ∀ x ∈ xs, x < 256 := fun x h => h256 x (by rw [hx] at h; exact List.mem_of_mem_take h)
      subst hs
      rw [rans_seal] at h ⊢
      cases hr : rdLed xs with
      | none => rw [hr] at h; cases h
      | some l =>
        obtain ⟨i1, i2⟩ := rdLed_inv hx256 hr
        exact ⟨by simp only; rw [i1], i2⟩
    · rw [rans_sum (by omega) hs] at h; cases h
theorem rans_kinds (bs : List Nat) : (rans bs).1 = 0 ∨ (rans bs).1 = 5 ∨ (rans bs).1 = 6 := by
  unfold rans
  split
  · exact .inr (.inl rfl)
  · split
    · split
      · exact .inr (.inl rfl)
      · exact .inl rfl
    · exact .inr (.inr rfl)

theorem ReadPost.flat {bs : List Nat} {a2 a8 : Addr} {w w' : World} {e : Ending} (h : ReadPost bs a2 a8 w e w') :
    ∃ v, e = .returned (.tuple #[v, rerr a2 a8 (rans bs).1]) ∧ OwnLed w' w.heap.size w'.heap.size v (rans bs).2 ∧ Below w.heap.size w w' := by
  obtain ⟨hb, ⟨h1, rfl⟩ | ⟨h1, h2, rfl⟩ | ⟨xs, rfl, ⟨hx, rfl⟩ | ⟨l, v, hx, rfl, ho⟩⟩⟩ := h
  · rw [rans_few h1]; exact ⟨_, rfl, OwnLed.nil_ _ _ _, hb⟩
  · rw [rans_sum h1 h2]; exact ⟨_, rfl, OwnLed.nil_ _ _ _, hb⟩
  · rw [rans_seal, hx]; exact ⟨_, rfl, OwnLed.nil_ _ _ _, hb⟩
  · rw [rans_seal, hx]; exact ⟨_, rfl, ho, hb⟩
theorem RReadLPost.flat {bs : List Nat} {w w' : World} {e : Ending} (h : RReadLPost bs w e w') :
    ∃ v, e = .returned (.tuple #[v, .int .i64 ((rans bs).1 : Nat)]) ∧ OwnLed w' w.heap.size w'.heap.size v (rans bs).2 ∧ Below w.heap.size w w' := by
  obtain ⟨hb, ⟨h1, rfl⟩ | ⟨h1, h2, rfl⟩ | ⟨xs, rfl, ⟨hx, rfl⟩ | ⟨l, v, hx, rfl, ho⟩⟩⟩ := h
  · rw [rans_few h1]; exact ⟨_, rfl, OwnLed.nil_ _ _ _, hb⟩
  · rw [rans_sum h1 h2]; exact ⟨_, rfl, OwnLed.nil_ _ _ _, hb⟩
  · rw [rans_seal, hx]; exact ⟨_, rfl, OwnLed.nil_ _ _ _, hb⟩
  · rw [rans_seal, hx]; exact ⟨_, rfl, ho, hb⟩
theorem num_rerr {w : World} {B : Nat} {A : Nat → Addr} (h : Errs w B A G18) (hB : B ≤ w.heap.size) (bs : List Nat) : Calls Tryd.prog 64 #[rerr (A 2) (A 8) (rans bs).1] w (NumPost ((rans bs).1 : Nat) w) := by
  rcases rans_kinds bs with e | e | e
  · rw [e]; exact num_nil w
  · rw [e]; exact num_any h hB 4 2 rfl
  · rw [e]; exact num_any h hB 5 8 rfl

theorem WritePost.well {l : List Cmd} {a1 a12 : Addr} {w w' : World} {e : Ending} (h : WritePost l a1 a12 w e w') (hl : l.length ≤ 4096) (hall : ∀ c ∈ l, chkB c = true) :
    ∃ A c, e = .returned (.tuple #[.slice A (sealN (ledN l)).length c, .nilIface]) ∧ OwnB w' w.heap.size (.slice A (sealN (ledN l)).length c) (sealN (ledN l)) ∧ Below w.heap.size w w' := by
  obtain ⟨hb, ⟨h1, _⟩ | ⟨_, ⟨c, hc, hf⟩, _⟩ | ⟨_, _, v, rfl, ho⟩⟩ := h
  · omega
  · rw [hall c hc] at hf
    cases hf
  · obtain ⟨A, c, rfl⟩ := ho.1
    exact ⟨A, c, rfl, ho, hb⟩

set_option maxRecDepth 100000 in
set_option maxHeartbeats 3200000 in
theorem reads_any (w : World) (hi c : Nat) (A : Option Addr) (bs : List Nat) (hr : Rd w 0 hi 1 A bs.length (u8s bs)) (hhi : hi ≤ w.heap.size) (hl : bs.length ≤ 140737488351232) (hc : bs.length ≤ c ∧ c ≤ 9223372036854775807) (hA : A = none → c = 0)
    (h256 : ∀ x ∈ bs, x < 256) (E : Nat → Addr) (hE : Errs w w.heap.size E G18) :
    Calls Tryd.prog 16 #[.slice A bs.length c] w fun e w' => e = .returned (.bool true) ∧ Below w.heap.size w w' := by
  have hG : ∀ W, Below w.heap.size w W → Errs W w.heap.size E G18 := fun W b => hE.fr (Fr.of_below b (fun _ => False)) (Nat.le_refl _) (fun _ _ h => h)
  have hRd : ∀ W, Below w.heap.size w W → Rd W 0 hi 1 A bs.length (u8s bs) := fun W b => hr.fr (Fr.of_below b (fun _ => False)) hhi (fun _ _ _ h => h)
  have H := Lib.hid (And.intro hhi (And.intro hl (And.intro hc (And.intro hA (And.intro h256 (And.intro hG hRd))))))
  obtain ⟨n, hn⟩ : ∃ n, n = bs.length := ⟨_, rfl⟩
  rw [← hn]
  have HN := Lib.hid hn
  clear hr hhi hl hc hA h256 hE hG hRd hn
  go_enter Tryd.func16, Tryd.ntmps16
  go_upto_region 3 with (first | (go_at_call 35; refine (alive10_any _).mono ?_; rintro e w1 ⟨rfl, b1⟩; have B1 := Lib.hid b1; clear b1) | fail)
  have k49 := nbytes_any w1 0 hi c A bs (H.out.2.2.2.2.2.2 w1 B1.out) (Nat.le_trans H.out.1 B1.out.size) H.out.2.1
  rw [← HN.out] at k49
  have HK49 := Lib.hid k49
  clear k49
  go_upto_region 4 with (first | (go_at_call 49; refine HK49.out.mono ?_; rintro e w2 ⟨b, c', rfl, m2, b2⟩; have H2 := Lib.hid (And.intro m2 (B1.out.trans (b2.mono B1.out.size))); clear m2 b2) | fail)
  have hE2 := H.out.2.2.2.2.2.1 w2 H2.out.2
  have k72 := wread_any w2 w2.heap.size c' (some ⟨b, 0, none⟩) bs (H2.out.1.1.take.wider (Nat.zero_le _) (Nat.le_refl _)) (Nat.le_refl _) H.out.2.1 ⟨by have := H2.out.1.2.1; omega, H2.out.1.2.2⟩ H.out.2.2.2.2.1 (E 1) (E 2) (E 8) (hE2.cell 1 (by decide)) (hE2.cell 2 (by decide)) (hE2.cell 8 (by decide))
  rw [← HN.out] at k72
  have HK72 := Lib.hid k72
  obtain ⟨k, hk⟩ : ∃ k, k = (rans bs).1 := ⟨_, rfl⟩
  obtain ⟨l, hl⟩ : ∃ l, l = (rans bs).2 := ⟨_, rfl⟩
  obtain ⟨ev, hev⟩ : ∃ ev, ev = rerr (E 2) (E 8) k := ⟨_, rfl⟩
  have HV := Lib.hid (And.intro hk (And.intro hl hev))
  clear k72 HK49 hE2 hk hl hev
  go_upto_region 5 with (first
    | (go_at_call 72
       refine HK72.out.mono ?_
       rintro e w3 hg
       obtain ⟨v3, rfl, o3, b3⟩ := hg.flat
       rw [← HV.out.2.1] at o3
       rw [← HV.out.1, ← HV.out.2.2]
       have H3 := Lib.hid (And.intro o3 (And.intro (H2.out.1.below b3) (H2.out.2.trans (b3.mono H2.out.2.size))))
       clear o3 b3 hg)
    | fail)
  have k73 := rreadL_any w3 hi c A bs (H.out.2.2.2.2.2.2 w3 H3.out.2.2) (Nat.le_trans H.out.1 H3.out.2.2.size) H.out.2.1 H.out.2.2.1 H.out.2.2.2.1 H.out.2.2.2.2.1
  rw [← HN.out] at k73
  have HK73 := Lib.hid k73
  clear k73 HK72
  go_upto_region 6 with (first
    | (go_at_call 73
       refine HK73.out.mono ?_
       rintro e w4 hg
       obtain ⟨v4, rfl, o4, b4⟩ := hg.flat
       rw [← HV.out.2.1] at o4
       rw [← HV.out.1]
       have H4 := Lib.hid (And.intro o4 (And.intro ((H3.out.1.fr (Fr.of_below b4 (fun _ => False)) (Nat.le_refl _) (fun _ _ _ h => h)).wider (Nat.le_refl _) b4.size) (And.intro (H3.out.2.1.below b4) (H3.out.2.2.trans (b4.mono H3.out.2.2.size)))))
       clear o4 b4 hg)
    | fail)
  have k64 := num_rerr (H.out.2.2.2.2.2.1 w4 H4.out.2.2.2) H4.out.2.2.2.size bs
  rw [← HV.out.1, ← HV.out.2.2] at k64
  have HK64 := Lib.hid k64
  clear k64 HK73
  go_upto_region 8 with (first
    | (go_at_call 64
       refine HK64.out.mono ?_
       rintro e w5 ⟨rfl, b5⟩
       have H5 := Lib.hid (And.intro (H4.out.1.fr (Fr.of_below b5 (fun _ => False)) (Nat.le_refl _) (fun _ _ _ h => h)) (And.intro (H4.out.2.1.fr (Fr.of_below b5 (fun _ => False)) (Nat.le_refl _) (fun _ _ _ h => h)) (And.intro (H4.out.2.2.1.below b5) (And.intro (H4.out.2.2.2.trans (b5.mono H4.out.2.2.2.size)) b5.size))))
       clear b5)
    | (go_at_call 59
       have k59 := same_any w5 _ _ _ _ v3 v4 l l H5.out.2.1.at_ H5.out.1.at_ H5.out.2.2.2.2 H5.out.2.2.2.2
       rw [tf_true rfl] at k59
       refine k59.mono ?_
       rintro e w6 ⟨rfl, b6⟩
       have H6 := Lib.hid (And.intro ((H5.out.2.1.fr (Fr.of_below b6 (fun _ => False)) H5.out.2.2.2.2 (fun _ _ _ h => h)).wider (Nat.le_refl _) (Nat.le_trans H5.out.2.2.2.2 b6.size)) (And.intro (H5.out.2.2.1.below b6) (H5.out.2.2.2.1.trans (b6.mono H5.out.2.2.2.1.size))))
       clear b6 k59)
    | (go_at_call 51
       have k51 := kept_any w6 _ b c' bs H6.out.2.1 hi c A (H.out.2.2.2.2.2.2 w6 H6.out.2.2) H.out.2.2.2.1 H.out.2.2.2.2.1 H.out.2.1
       rw [← HN.out] at k51
       refine k51.mono ?_
       rintro e w7 ⟨rfl, b7⟩
       have H7 := Lib.hid (And.intro ((H6.out.1.fr (Fr.of_below b7 (fun _ => False)) (Nat.le_refl _) (fun _ _ _ h => h)).wider (Nat.le_refl _) b7.size) (H6.out.2.2.trans (b7.mono H6.out.2.2.size)))
       clear b7 k51)
    | fail)
  by_cases hk0 : k = 0
  · obtain rfl : ev = .nilIface := by rw [HV.out.2.2, hk0]; rfl
    have hgood := rans_good H.out.2.2.2.2.1 (by rw [← HV.out.1]; exact hk0)
    rw [← HV.out.2.1] at hgood
    have HGD := Lib.hid hgood
    have hE7 := H.out.2.2.2.2.2.1 w7 H7.out.2
    have k70 := wwrite_any w7 _ _ v3 l H7.out.1.at_ (Nat.le_refl _) hgood.2.2.2 (E 1) (E 12) (hE7.cell 1 (by decide)) (hE7.cell 12 (by decide))
    have HK70 := Lib.hid k70
    subst hk0
    clear hgood hE7 k70
    go_upto_region 11 with (first
      | (go_at_call 70
         refine HK70.out.mono ?_
         rintro e w9 hw
         obtain ⟨A6, c6, rfl, o6, b6⟩ := hw.well HGD.out.2.1 HGD.out.2.2.1
         rw [HGD.out.1] at o6 ⊢
         have H9 := Lib.hid (And.intro o6 b6)
         clear hw o6 b6)
      | fail)
    have hb9 := H7.out.2.trans (H9.out.2.mono H7.out.2.size)
    have hv1 : (convert 84 9 (.slice A6 bs.length c6)).run Tryd.prog w9 = .ok (.string (textOf bs)) w9 :=
      conv_bytes (W := w9) (lo := w7.heap.size) (hi := w9.heap.size) H.out.2.2.2.2.1 (Rd.of_own H9.out.1.2.2 (fun g hg => (H9.out.1.2.2.lt g hg).2)) (fun hA => by
        subst hA
        rcases H9.out.1.2.2.2 with ⟨h1, _⟩ | ⟨_, _, _, h1, _⟩
        · injection h1
        · injection h1 with h1
          cases h1)
    have hv2 : (convert 84 9 (.slice A bs.length c)).run Tryd.prog w9 = .ok (.string (textOf bs)) w9 := conv_bytes H.out.2.2.2.2.1 (H.out.2.2.2.2.2.2 w9 hb9) H.out.2.2.2.1
    rw [← HN.out] at hv1 hv2 ⊢
    have HB9 := Lib.hid hb9
    clear hb9
    go_wp2_with (fail)
    go_ret
    exact ⟨rfl, HB9.out⟩
  · have hk1 : (¬ (k : Int) = 0) := by omega
    go_wp2_with (fail)
    go_ret
    exact ⟨rfl, H7.out.2⟩

end Go.Proofs.YtnlncfjibbdimaaDoor

namespace Go.Proofs.YtnlncfjibbdimaaDoor
open Go.ChangeShapes Go.WideShapes Go.ChangeAt Go.RowKit Go.Deep
set_option linter.unusedSimpArgs false
set_option linter.unusedVariables false

def sentsCommandReads : List (String × Nat × List UInt8) := [("bollard/api.ErrParams", 5, [98, 111, 108, 108, 97, 114, 100, 58, 32, 112, 97, 114, 97, 109, 115]), ("bollard/api.ErrNumber", 0, [98, 111, 108, 108, 97, 114, 100, 58, 32, 110, 117, 109, 98, 101, 114]), ("bollard/api.ErrData", 6, [98, 111, 108, 108, 97, 114, 100, 58, 32, 100, 97, 116, 97]), ("bollard/api.ErrLost", 7, [98, 111, 108, 108, 97, 114, 100, 58, 32, 108, 111, 115, 116]), ("bollard/api.ErrBytes", 2, [98, 111, 108, 108, 97, 114, 100, 58, 32, 98, 121, 116, 101, 115]), ("bollard/api.ErrDigest", 8, [98, 111, 108, 108, 97, 114, 100, 58, 32, 100, 105, 103, 101, 115, 116]), ("bollard/api.ErrName", 9, [98, 111, 108, 108, 97, 114, 100, 58, 32, 110, 97, 109, 101]), ("bollard/api.ErrGone", 10, [98, 111, 108, 108, 97, 114, 100, 58, 32, 103, 111, 110, 101]), ("bollard/api.ErrThere", 11, [98, 111, 108, 108, 97, 114, 100, 58, 32, 116, 104, 101, 114, 101]), ("bollard/api.ErrFull", 4, [98, 111, 108, 108, 97, 114, 100, 58, 32, 102, 117, 108, 108]), ("bollard/api.ErrLarge", 12, [98, 111, 108, 108, 97, 114, 100, 58, 32, 108, 97, 114, 103, 101]), ("bollard/api.ErrBallot", 3, [98, 111, 108, 108, 97, 114, 100, 58, 32, 98, 97, 108, 108, 111, 116]), ("bollard/api.ErrRequest", 13, [98, 111, 108, 108, 97, 114, 100, 58, 32, 114, 101, 113, 117, 101, 115, 116]), ("bollard/api.ErrUri", 14, [98, 111, 108, 108, 97, 114, 100, 58, 32, 117, 114, 105]), ("bollard/api.ErrDenied", 15, [98, 111, 108, 108, 97, 114, 100, 58, 32, 100, 101, 110, 105, 101, 100]), ("bollard/api.ErrSkew", 16, [98, 111, 108, 108, 97, 114, 100, 58, 32, 115, 107, 101, 119]), ("bollard/api.ErrMethod", 17, [98, 111, 108, 108, 97, 114, 100, 58, 32, 109, 101, 116, 104, 111, 100]), ("bollard/api.ErrState", 1, [98, 111, 108, 108, 97, 114, 100, 58, 32, 115, 116, 97, 116, 101])]
theorem sentsCommandReads_ok : ∀ x ∈ sentsCommandReads, SentOk x := by
  intro x hx
  simp only [sentsCommandReads, List.mem_cons, List.not_mem_nil, or_false] at hx
  rcases hx with rfl | rfl | rfl | rfl | rfl | rfl | rfl | rfl | rfl | rfl | rfl | rfl | rfl | rfl | rfl | rfl | rfl | rfl
  · exact ⟨by kernel_rfl, by kernel_rfl⟩
  · exact ⟨by kernel_rfl, by kernel_rfl⟩
  · exact ⟨by kernel_rfl, by kernel_rfl⟩
  · exact ⟨by kernel_rfl, by kernel_rfl⟩
  · exact ⟨by kernel_rfl, by kernel_rfl⟩
  · exact ⟨by kernel_rfl, by kernel_rfl⟩
  · exact ⟨by kernel_rfl, by kernel_rfl⟩
  · exact ⟨by kernel_rfl, by kernel_rfl⟩
  · exact ⟨by kernel_rfl, by kernel_rfl⟩
  · exact ⟨by kernel_rfl, by kernel_rfl⟩
  · exact ⟨by kernel_rfl, by kernel_rfl⟩
  · exact ⟨by kernel_rfl, by kernel_rfl⟩
  · exact ⟨by kernel_rfl, by kernel_rfl⟩
  · exact ⟨by kernel_rfl, by kernel_rfl⟩
  · exact ⟨by kernel_rfl, by kernel_rfl⟩
  · exact ⟨by kernel_rfl, by kernel_rfl⟩
  · exact ⟨by kernel_rfl, by kernel_rfl⟩
  · exact ⟨by kernel_rfl, by kernel_rfl⟩

set_option maxRecDepth 100000 in
theorem commandReads_walk : LawWalk 16 Tryd.f16 (sentsCommandReads.map (·.2.1)) := by
  intro H enc W base args ds p A hA hval hsz hlt hE
  rw [Tryd.params16] at hA hval hsz
  obtain ⟨v0, vs0, d0, ds0, p0, q0, hargs, rfl, rfl, h0, r0⟩ := trodAll_cons hA
  obtain ⟨rfl, rfl, rfl⟩ := trodAll_nil r0
  obtain rfl : args = #[v0] := by cases args; simp_all
  have hl0 : Light 84 d0 := light_of_each (j := 0) hsz rfl rfl
  have c0 := arg_slice' Tryd.underlying84 (hval 0 84 v0 rfl rfl)
  obtain ⟨f0, h0⟩ := h0
  rw [c0] at h0
  obtain ⟨B, c, bs, hcs, hr, hl, hc, hB, h256⟩ := open_bytes h0 hl0
  injection hcs with hcs _
  subst hcs
  have hG : sentsCommandReads.map (·.2.1) = G18 := rfl
  rw [hG] at hE
  exact reads_any W W.heap.size c B bs hr (Nat.le_refl _) hl hc hB h256 A hE

end Go.Proofs.YtnlncfjibbdimaaDoor
