/-
  RoundReads: a round that only reads lets just what it was told be accepted.
-/
import Derived.Test.YtnlncfjibbdimaaDoorAlive13
import Derived.Test.YtnlncfjibbdimaaDoorSameL
import Derived.Test.YtnlncfjibbdimaaDoorRCopy
namespace Go.Proofs.YtnlncfjibbdimaaDoor
open Go.RowKit
set_option linter.unusedSimpArgs false
set_option linter.unusedVariables false

/-- The command that is none. -/
def zc13 : Cmd := ⟨0, 0, 0, 0, ⟨#[]⟩, ⟨#[]⟩, 0, 0, 0, 0, 0, 0, 0, ⟨#[]⟩, 0, [], 0, 0⟩
/-- The round that reads, told l. -/
def rd13 (tr tn : Int) (l : List Cmd) (s : Int) : Rnd := ⟨zc13, true, tr + 1, 0, s, tr, tn, l, 1⟩
theorem rd13_told (tr tn : Int) (l : List Cmd) (h : 1 ≤ tr) : (⟨zc13, true, tr + 1, 0, 1, 0, 0, [], 1⟩ : Rnd).promised 1 (fun _ => false) 0 tr tn l = rd13 tr tn l 2 := by
  unfold Rnd.promised
  rw [if_pos (by decide +kernel)]
  unfold Rnd.newer
  rw [if_pos (by unfold ab; simp; omega)]
  rfl
theorem rd13_f : promF 1 (fun _ => false) 0 = fun _ => false := by
  unfold promF
  rw [if_pos (by decide +kernel)]
theorem rd13_acc (tr tn : Int) (l : List Cmd) : ({ rd13 tr tn l 2 with stage := if half (1 : Nat) ≤ (cnt 1 (upd (fun _ => false) 0 true) : Nat) then 3 else 2 } : Rnd) = rd13 tr tn l 3 := by rw [if_pos (by decide +kernel)]; rfl
theorem rd13_tells (tr tn : Int) (l : List Cmd) : (rd13 tr tn l 2).tells = l := rfl
theorem rd13_place (tr tn : Int) (l : List Cmd) : (rd13 tr tn l 2).place = (l.length : Nat) := rfl
theorem RS.begin_late {w W : World} {B g ga n : Nat} {f : Nat → Bool} {r : Rnd} {pv lv : Value} {A : Nat → Addr} (h : RS w B g ga n f r pv lv W) (hE : E13 w A) {br bn : Int} (hs : 3 ≤ r.stage) :
    Calls Tryd.prog 55 #[.pointer (some ⟨g, 0, none⟩), .agg #[.int .i64 br, .int .i64 bn]] W fun e w' => e = .returned (errv (A 1)) ∧ Below W.heap.size W w' :=
  Go.Proofs.YtnlncfjibbdimaaDoor.begin_late W B g ga n f r pv lv h.at_ br bn (A 1) (h.e hE (by simp)) hs

set_option maxRecDepth 100000 in
set_option maxHeartbeats 1600000 in
theorem roundReads_any (w : World) (A : Nat → Addr) (hE : E13 w A) (lo hi : Nat) (v : Value) (l : List Cmd) (hL : LedAt w lo hi v l) (hhi : hi ≤ w.heap.size) (tr tn : Int) :
    Calls Tryd.prog 12 #[v, .agg #[.int .i64 tr, .int .i64 tn]] w fun e w' => e = .returned (.bool true) ∧ Below w.heap.size w w' := by
  have bA : Below w.heap.size w (w.alloc (.cells #[.int .i64 tr, .int .i64 tn] 23)) := (Below.refl _ _).alloc (Nat.le_refl _) _
  have hX := Blk.new w 23 #[.int .i64 tr, .int .i64 tn]
  have k52 := alive13_any (w.alloc (.cells #[.int .i64 tr, .int .i64 tn] 23)) A (hE.below bA)
  have k57 := fun W => rlegal_any tr tn W
  obtain ⟨Al, cap, rfl, hl1, hl2, hl3⟩ := hL.form
  obtain ⟨nl, hnl⟩ : ∃ nl, nl = l.length := ⟨_, rfl⟩
  rw [← hnl] at hL ⊢
  have hnl63 : nl ≤ 9223372036854775807 := by simp only [maxLen] at hl2; omega
  have HH := Lib.hid (And.intro hE (And.intro hL (And.intro hnl (And.intro bA (And.intro hX hhi)))))
  have HK := Lib.hid (And.intro k52 k57)
  clear hE hL hnl bA hX k52 k57 hl1 hl2 hl3 hhi
  cases hlg : lg tr tn with
  | false =>
    have k57' : ∀ W, Calls Tryd.prog 57 #[.agg #[.int .i64 tr, .int .i64 tn]] W fun e w' => e = .returned (.bool false) ∧ Below W.heap.size W w' := fun W => by rw [← hlg]; exact HK.out.2 W
    have HL := Lib.hid k57'
    clear k57' hlg
    go_enter Tryd.func12, Tryd.ntmps12
    go_upto_region 3 with (first
      | (go_at_call 52; refine HK.out.1.mono ?_; rintro e w1 ⟨rfl, b1⟩; have hX1 := HH.out.2.2.2.2.1.below b1 HH.out.2.2.2.2.1.lt; have x0 := hX1.cell 0; have x1 := hX1.cell 1; have H1 := Lib.hid b1; clear b1 hX1)
      | fail)
    go_wp2_with (first | (go_at_call 57; refine (HL.out _).mono ?_; rintro e w2 ⟨rfl, b2⟩; have H2 := Lib.hid b2; clear b2) | fail)
    go_ret
    exact ⟨rfl, (HH.out.2.2.2.1.trans (H1.out.mono HH.out.2.2.2.1.size)).trans (H2.out.mono (HH.out.2.2.2.1.trans (H1.out.mono HH.out.2.2.2.1.size)).size)⟩
  | true =>
    have k57' : ∀ W, Calls Tryd.prog 57 #[.agg #[.int .i64 tr, .int .i64 tn]] W fun e w' => e = .returned (.bool true) ∧ Below W.heap.size W w' := fun W => by rw [← hlg]; exact HK.out.2 W
    have hlr := lg_rng hlg
    have HL := Lib.hid (And.intro k57' hlr)
    clear k57' hlg hlr
    by_cases ht : tr = 1099511627776
    · subst ht
      go_enter Tryd.func12, Tryd.ntmps12
      go_upto_region 3 with (first
        | (go_at_call 52; refine HK.out.1.mono ?_; rintro e w1 ⟨rfl, b1⟩; have hX1 := HH.out.2.2.2.2.1.below b1 HH.out.2.2.2.2.1.lt; have x0 := hX1.cell 0; have x1 := hX1.cell 1; have H1 := Lib.hid (And.intro b1 hX1); clear b1 hX1)
        | fail)
      go_wp2_with (first | (go_at_call 57; refine (HL.out.1 _).mono ?_; rintro e w2 ⟨rfl, b2⟩; have y0 : w2.cell? ⟨w.heap.size, 0, none⟩ = some (.int .i64 1099511627776) := (H1.out.2.below b2 H1.out.2.lt).cell 0; have H2 := Lib.hid b2; clear b2) | fail)
      go_ret
      exact ⟨rfl, (HH.out.2.2.2.1.trans (H1.out.1.mono HH.out.2.2.2.1.size)).trans (H2.out.mono (HH.out.2.2.2.1.trans (H1.out.1.mono HH.out.2.2.2.1.size)).size)⟩
    · have hte : (tr == 1099511627776) = false := by simp [ht]
      by_cases hlen : (nl : Int) > 4096
      · go_enter Tryd.func12, Tryd.ntmps12
        go_upto_region 3 with (first
          | (go_at_call 52; refine HK.out.1.mono ?_; rintro e w1 ⟨rfl, b1⟩; have hX1 := HH.out.2.2.2.2.1.below b1 HH.out.2.2.2.2.1.lt; have x0 := hX1.cell 0; have x1 := hX1.cell 1; have H1 := Lib.hid (And.intro b1 hX1); clear b1 hX1)
          | fail)
        go_wp2_with (first | (go_at_call 57; refine (HL.out.1 _).mono ?_; rintro e w2 ⟨rfl, b2⟩; have y0 : w2.cell? ⟨w.heap.size, 0, none⟩ = some (.int .i64 tr) := (H1.out.2.below b2 H1.out.2.lt).cell 0; have H2 := Lib.hid b2; clear b2) | fail)
        go_ret
        exact ⟨rfl, (HH.out.2.2.2.1.trans (H1.out.1.mono HH.out.2.2.2.1.size)).trans (H2.out.mono (HH.out.2.2.2.1.trans (H1.out.1.mono HH.out.2.2.2.1.size)).size)⟩
      · have hw1 : IntKind.i64.wrap (tr + 1) = tr + 1 := by rw [IntKind.wrap_i64]; have := HL.out.2; omega
        have hw2 : IntKind.i64.wrap (tr + 2) = tr + 2 := by rw [IntKind.wrap_i64]; have := HL.out.2; omega
        go_enter Tryd.func12, Tryd.ntmps12
        go_upto_region 3 with (first
          | (go_at_call 52; refine HK.out.1.mono ?_; rintro e w1 ⟨rfl, b1⟩; have hX1 := HH.out.2.2.2.2.1.below b1 HH.out.2.2.2.2.1.lt; have x0 := hX1.cell 0; have x1 := hX1.cell 1; have H1 := Lib.hid (And.intro b1 hX1); clear b1 hX1)
          | fail)
        go_upto_region 5 with (first | (go_at_call 57; refine (HL.out.1 _).mono ?_; rintro e w2 ⟨rfl, b2⟩; have y0 : w2.cell? ⟨w.heap.size, 0, none⟩ = some (.int .i64 tr) := (H1.out.2.below b2 H1.out.2.lt).cell 0; have H2 := Lib.hid b2; clear b2) | fail)
        have hb2 := (HH.out.2.2.2.1.trans (H1.out.1.mono HH.out.2.2.2.1.size)).trans (H2.out.mono (HH.out.2.2.2.1.trans (H1.out.1.mono HH.out.2.2.2.1.size)).size)
        have X2 := H1.out.2.below H2.out H1.out.2.lt
        have k53 := new13_reads w2 1 zc13 (.slice none 0 0) 0 0 ⟨none, 0, rfl, Nat.le_refl _, by simp [maxLen], by simp [zc13], by simp [zc13, ints], fun h => by simp [zc13] at h⟩ (Nat.zero_le _) ⟨by omega, by omega⟩
        have H3 := Lib.hid (And.intro hb2 (And.intro X2 k53))
        clear hb2 X2 k53 x0 x1 y0
        go_upto_region 6 with (first
          | (go_at_call 53
             refine H3.out.2.2.mono ?_
             rintro e w3 h3
             obtain ⟨ga, pv, rfl, R3, b3⟩ := RS.of_new H3.out.1 (by omega) h3
             have X3 := H3.out.2.1.below b3 H3.out.2.1.lt
             have y0 : w3.cell? ⟨w.heap.size, 0, none⟩ = some (.int .i64 tr) := X3.cell 0
             have H4 := Lib.hid (And.intro R3 X3)
             clear R3 b3 h3 X3)
          | fail)
        go_upto_region 7 with (fail)
        have R4 := H4.out.1
        refine wp_letter (fun W => RS w w3.heap.size (ga + 1) ga 1 (fun _ => false) ⟨zc13, true, 0, 0, 0, 0, 0, [], 0⟩ pv (.slice none 0 0) W ∧ Blk W w3.heap.size 23 #[.int .i64 (tr + 1), .int .i64 0] ∧ Blk W w.heap.size 23 #[.int .i64 tr, .int .i64 tn])
          ⟨R4.below ((Below.refl _ _).alloc (Nat.le_refl _) _), Blk.new w3 23 _, H4.out.2.alloc _⟩ ?_
        clear R4
        rintro W4 ⟨R4, XB4, XT4⟩
        obtain ⟨B, hB⟩ : ∃ B, B = w3.heap.size := ⟨_, rfl⟩
        obtain ⟨xt, hxt⟩ : ∃ xt, xt = w.heap.size := ⟨_, rfl⟩
        have hxtga : xt < ga := by
          have h1 := R4.at_.ans
          have h2 := R4.lo
          have h3 : w.heap.size ≠ ga := fun e => blk_ne13 XT4 h1 (by decide) e
          omega
        rw [← hB] at R4
        rw [← hB] at XB4
        rw [← hxt] at XT4
        rw [← hB, ← hxt]
        have hgaB : ga + 1 < B := R4.at_.hg
        have hLk : ∀ W', Below w.heap.size w W' → LedAt W' lo hi (.slice Al nl cap) l ∧ hi ≤ W'.heap.size := fun W' b => ⟨HH.out.2.1.fr (Fr.of_below b (fun _ => False)) HH.out.2.2.2.2.2 (fun _ _ _ h => h), Nat.le_trans HH.out.2.2.2.2.2 b.size⟩
        have HLK := Lib.hid hLk
        clear hLk hB
        obtain ⟨g, hg⟩ : ∃ g, g = ga + 1 := ⟨_, rfl⟩
        rw [← hg] at R4 ⊢
        have hne : (B ≠ g ∧ B ≠ ga) ∧ (xt ≠ g ∧ xt ≠ ga) ∧ hi ≤ ga := by have := HH.out.2.2.2.2.2; omega
        clear hg hgaB hxtga hxt
        have hS4 : Blk W4 B 23 #[.int .i64 (tr + 1), .int .i64 0] ∧ Blk W4 xt 23 #[.int .i64 tr, .int .i64 tn] ∧ W4.cell? ⟨1, 0, none⟩ = some (errv (A 1)) := ⟨XB4, XT4, R4.e HH.out.1 (by simp)⟩
        have hS4d : Blk W4.drew B 23 #[.int .i64 (tr + 1), .int .i64 0] ∧ Blk W4.drew xt 23 #[.int .i64 tr, .int .i64 tn] ∧ W4.drew.cell? ⟨1, 0, none⟩ = some (errv (A 1)) := hS4
        have R4d := R4.below (Below.refl W4.heap.size W4).drew
        have H5 := Lib.hid R4d
        clear R4 R4d XB4 XT4 H4
        refine wp_region_held_drew (S := fun w' => Blk w' B 23 #[.int .i64 (tr + 1), .int .i64 0] ∧ Blk w' xt 23 #[.int .i64 tr, .int .i64 tn] ∧ w'.cell? ⟨1, 0, none⟩ = some (errv (A 1))) (by kernel_rfl) hS4d (fun _ => ?_)
        refine wpAnyH_take (i := 0) (v := .nilIface) rfl (by kernel_rfl) (by kernel_rfl) (by kernel_rfl) (fun _ _ _ h => h) (Or.inl ⟨by kernel_rfl, fun w' hSw => ?_⟩) hS4d ?_
        · go_simp
        try simp only [List.getElem_toArray, List.getElem_cons_succ, List.getElem_cons_zero, Act.put, List.setIfInBounds_toArray, List.set_cons_zero, List.set_cons_succ]
        refine wpAnyH_take (i := 1) (v := .bool false) rfl (by kernel_rfl) (by kernel_rfl) (by kernel_rfl) (fun _ _ _ h => h) (Or.inl ⟨by kernel_rfl, fun w' hSw => ?_⟩) hS4d ?_
        · go_simp
        try simp only [List.getElem_toArray, List.getElem_cons_succ, List.getElem_cons_zero, Act.put, List.setIfInBounds_toArray, List.set_cons_zero, List.set_cons_succ]
        refine wpAnyH_take (i := 2) (v := .bool false) rfl (by kernel_rfl) (by kernel_rfl) (by kernel_rfl) (fun _ _ _ h => h) (Or.inl ⟨by kernel_rfl, fun w' hSw => ?_⟩) hS4d ?_
        · go_simp
        try simp only [List.getElem_toArray, List.getElem_cons_succ, List.getElem_cons_zero, Act.put, List.setIfInBounds_toArray, List.set_cons_zero, List.set_cons_succ]
        refine wpAnyH_take (i := 3) (v := .pointer (some ⟨g, 0, none⟩)) rfl (by kernel_rfl) (by kernel_rfl) (by kernel_rfl) (fun _ _ _ h => h) (Or.inl ⟨by kernel_rfl, fun w' hSw => ?_⟩) hS4d ?_
        · go_simp
        try simp only [List.getElem_toArray, List.getElem_cons_succ, List.getElem_cons_zero, Act.put, List.setIfInBounds_toArray, List.set_cons_zero, List.set_cons_succ]
        refine wpAnyH_take (i := 4) (v := .bool false) rfl (by kernel_rfl) (by kernel_rfl) (by kernel_rfl) (fun _ _ _ h => h) (Or.inl ⟨by kernel_rfl, fun w' hSw => ?_⟩) hS4d ?_
        · go_simp
        try simp only [List.getElem_toArray, List.getElem_cons_succ, List.getElem_cons_zero, Act.put, List.setIfInBounds_toArray, List.set_cons_zero, List.set_cons_succ]
        refine wpAnyH_take (i := 5) (v := .bool false) rfl (by kernel_rfl) (by kernel_rfl) (by kernel_rfl) (fun _ _ _ h => h) (Or.inl ⟨by kernel_rfl, fun w' hSw => ?_⟩) hS4d ?_
        · go_simp
        try simp only [List.getElem_toArray, List.getElem_cons_succ, List.getElem_cons_zero, Act.put, List.setIfInBounds_toArray, List.set_cons_zero, List.set_cons_succ]
        refine wpAnyH_take (i := 6) (v := .bool false) rfl (by kernel_rfl) (by kernel_rfl) (by kernel_rfl) (fun _ _ _ h => h) (Or.inl ⟨by kernel_rfl, fun w' hSw => ?_⟩) hS4d ?_
        · go_simp
        try simp only [List.getElem_toArray, List.getElem_cons_succ, List.getElem_cons_zero, Act.put, List.setIfInBounds_toArray, List.set_cons_zero, List.set_cons_succ]
        refine wpAnyH_take (i := 7) (v := .pointer (some ⟨g, 0, none⟩)) rfl (by kernel_rfl) (by kernel_rfl) (by kernel_rfl) (fun _ _ _ h => h) (Or.inl ⟨by kernel_rfl, fun w' hSw => ?_⟩) hS4d ?_
        · go_simp
        try simp only [List.getElem_toArray, List.getElem_cons_succ, List.getElem_cons_zero, Act.put, List.setIfInBounds_toArray, List.set_cons_zero, List.set_cons_succ]
        refine wpAnyH_take (i := 8) (v := .agg #[.int .i64 (tr + 1), .int .i64 0]) rfl (by kernel_rfl) (by kernel_rfl) (by kernel_rfl) (fun _ _ _ h => h) ?_ hS4d ?_
        · refine yieldsIf_load_mid ?_ 23 (.tmp 7) ?_ B 0 ?_ [.int .i64 (tr + 1), .int .i64 0] _ (fun w' hw => Blk.range (cs := [.int .i64 (tr + 1), .int .i64 0]) hw.1) Tryd.underlying23 ?_ bal_info13
          · kernel_rfl
          · rfl
          · kernel_rfl
          · rfl
        try simp only [List.getElem_toArray, List.getElem_cons_succ, List.getElem_cons_zero, Act.put, List.setIfInBounds_toArray, List.set_cons_zero, List.set_cons_succ]
        refine wpAnyH_ready (rs := [9]) (by kernel_rfl) (by simp) ?_
        refine AllReadyH.cons rfl (fun K hK => ?_) AllReadyH.nil
        · go_simp
          refine (H5.out.begin_ HH.out.1 (br := tr + 1) (bn := 0) (by decide) (by have := HL.out.2; unfold lg; simp; omega) (by have := HL.out.2; unfold ab; simp; omega)).mono ?_
          rintro e W5 ⟨rfl, R5, F5⟩
          have hS5 : Blk W5 B 23 #[.int .i64 (tr + 1), .int .i64 0] ∧ Blk W5 xt 23 #[.int .i64 tr, .int .i64 tn] ∧ W5.cell? ⟨1, 0, none⟩ = some (errv (A 1)) := ⟨hS4d.1.fr F5 hS4d.1.lt (by have := hne; omega), hS4d.2.1.fr F5 hS4d.2.1.lt (by have := hne; omega), R5.e HH.out.1 (by simp)⟩
          have H6 := Lib.hid R5
          clear R5 F5
          refine Shut.out hK _ _ hS5 (fun _ => ?_)
          clear hK K
          try simp only [List.getElem_toArray, List.getElem_cons_succ, List.getElem_cons_zero, Act.put, List.setIfInBounds_toArray, List.set_cons_zero, List.set_cons_succ]
          refine wpAnyH_take (i := 10) (v := .bool false) rfl (by kernel_rfl) (by kernel_rfl) (by kernel_rfl) (fun _ _ _ h => h) (Or.inl ⟨by kernel_rfl, fun w' hSw => ?_⟩) hS5 ?_
          · go_simp
          try simp only [List.getElem_toArray, List.getElem_cons_succ, List.getElem_cons_zero, Act.put, List.setIfInBounds_toArray, List.set_cons_zero, List.set_cons_succ]
          refine wpAnyH_take (i := 11) (v := .bool false) rfl (by kernel_rfl) (by kernel_rfl) (by kernel_rfl) (fun _ _ _ h => h) (Or.inl ⟨by kernel_rfl, fun w' hSw => ?_⟩) hS5 ?_
          · go_simp
          try simp only [List.getElem_toArray, List.getElem_cons_succ, List.getElem_cons_zero, Act.put, List.setIfInBounds_toArray, List.set_cons_zero, List.set_cons_succ]
          refine wpAnyH_take (i := 12) (v := .bool false) rfl (by kernel_rfl) (by kernel_rfl) (by kernel_rfl) (fun _ _ _ h => h) (Or.inl ⟨by kernel_rfl, fun w' hSw => ?_⟩) hS5 ?_
          · go_simp
          try simp only [List.getElem_toArray, List.getElem_cons_succ, List.getElem_cons_zero, Act.put, List.setIfInBounds_toArray, List.set_cons_zero, List.set_cons_succ]
          refine wpAnyH_take (i := 13) (v := .pointer (some ⟨g, 0, none⟩)) rfl (by kernel_rfl) (by kernel_rfl) (by kernel_rfl) (fun _ _ _ h => h) (Or.inl ⟨by kernel_rfl, fun w' hSw => ?_⟩) hS5 ?_
          · go_simp
          try simp only [List.getElem_toArray, List.getElem_cons_succ, List.getElem_cons_zero, Act.put, List.setIfInBounds_toArray, List.set_cons_zero, List.set_cons_succ]
          refine wpAnyH_take (i := 14) (v := .agg #[.int .i64 (tr + 1), .int .i64 0]) rfl (by kernel_rfl) (by kernel_rfl) (by kernel_rfl) (fun _ _ _ h => h) ?_ hS5 ?_
          · refine yieldsIf_load_mid ?_ 23 (.tmp 7) ?_ B 0 ?_ [.int .i64 (tr + 1), .int .i64 0] _ (fun w' hw => Blk.range (cs := [.int .i64 (tr + 1), .int .i64 0]) hw.1) Tryd.underlying23 ?_ bal_info13
            · kernel_rfl
            · rfl
            · kernel_rfl
            · rfl
          try simp only [List.getElem_toArray, List.getElem_cons_succ, List.getElem_cons_zero, Act.put, List.setIfInBounds_toArray, List.set_cons_zero, List.set_cons_succ]
          refine wpAnyH_take (i := 15) (v := .agg #[.int .i64 tr, .int .i64 tn]) rfl (by kernel_rfl) (by kernel_rfl) (by kernel_rfl) (fun _ _ _ h => h) ?_ hS5 ?_
          · refine yieldsIf_load_mid ?_ 23 (.tmp 3) ?_ xt 0 ?_ [.int .i64 tr, .int .i64 tn] _ (fun w' hw => Blk.range (cs := [.int .i64 tr, .int .i64 tn]) hw.2.1) Tryd.underlying23 ?_ bal_info13
            · kernel_rfl
            · rfl
            · kernel_rfl
            · rfl
          try simp only [List.getElem_toArray, List.getElem_cons_succ, List.getElem_cons_zero, Act.put, List.setIfInBounds_toArray, List.set_cons_zero, List.set_cons_succ]
          refine wpAnyH_take (i := 16) (v := .slice Al nl cap) rfl (by kernel_rfl) (by kernel_rfl) (by kernel_rfl) (fun _ _ _ h => h) (Or.inl ⟨by kernel_rfl, fun w' hSw => ?_⟩) hS5 ?_
          · go_simp
          try simp only [List.getElem_toArray, List.getElem_cons_succ, List.getElem_cons_zero, Act.put, List.setIfInBounds_toArray, List.set_cons_zero, List.set_cons_succ]
          refine wpAnyH_ready (rs := [17]) (by kernel_rfl) (by simp) ?_
          refine AllReadyH.cons rfl (fun K hK => ?_) AllReadyH.nil
          · go_simp
            refine (rcopy_any _ lo hi _ l (HLK.out _ H6.out.bel).1 (HLK.out _ H6.out.bel).2).mono ?_
            rintro e W6 ⟨v6, rfl, o6, b6⟩
            obtain ⟨A6, c6, hv6, _⟩ := o6.at_.form
            rw [← HH.out.2.2.1] at hv6
            subst hv6
            have R6 := H6.out.below b6
            have hS6 : Blk W6 B 23 #[.int .i64 (tr + 1), .int .i64 0] ∧ Blk W6 xt 23 #[.int .i64 tr, .int .i64 tn] ∧ W6.cell? ⟨1, 0, none⟩ = some (errv (A 1)) := ⟨hS5.1.below b6 hS5.1.lt, hS5.2.1.below b6 hS5.2.1.lt, R6.e HH.out.1 (by simp)⟩
            have hg6 := H6.out.at_.hga
            have hB6 := H6.out.at_.hB
            have k58 := R6.promise_yes HH.out.1 (j := 0) (br := tr + 1) (bn := 0) (ar := tr) (an := tn) o6.at_ (Nat.le_refl _) (.inl (by omega)) (by rfl) ⟨rfl, rfl⟩ (by omega) rfl
            have H7 := Lib.hid k58
            clear R6 o6 b6 k58 hg6 hB6
            refine Shut.out hK _ _ hS6 (fun _ => ?_)
            clear hK K
            try simp only [List.getElem_toArray, List.getElem_cons_succ, List.getElem_cons_zero, Act.put, List.setIfInBounds_toArray, List.set_cons_zero, List.set_cons_succ]
            refine wpAnyH_ready (rs := [18]) (by kernel_rfl) (by simp) ?_
            refine AllReadyH.cons rfl (fun K hK => ?_) AllReadyH.nil
            · go_simp
              refine H7.out.mono ?_
              rintro e W7 ⟨rfl, lv7, R7, F7, _⟩
              have hS7 : Blk W7 B 23 #[.int .i64 (tr + 1), .int .i64 0] ∧ Blk W7 xt 23 #[.int .i64 tr, .int .i64 tn] ∧ W7.cell? ⟨1, 0, none⟩ = some (errv (A 1)) := ⟨hS6.1.fr F7 hS6.1.lt (by have := hne; omega), hS6.2.1.fr F7 hS6.2.1.lt (by have := hne; omega), R7.e HH.out.1 (by simp)⟩
              have ew : wrap64 ((0 : Int) + 1) = 1 := one_wrap
              simp only [ew] at R7
              rw [rd13_told tr tn l (by have := HL.out.2; omega), rd13_f] at R7
              have H8 := Lib.hid R7
              clear R7 F7
              refine Shut.out hK _ _ hS7 (fun _ => ?_)
              clear hK K
              try simp only [List.getElem_toArray, List.getElem_cons_succ, List.getElem_cons_zero, Act.put, List.setIfInBounds_toArray, List.set_cons_zero, List.set_cons_succ]
              refine wpAnyH_take (i := 19) (v := .bool false) rfl (by kernel_rfl) (by kernel_rfl) (by kernel_rfl) (fun _ _ _ h => h) (Or.inl ⟨by kernel_rfl, fun w' hSw => ?_⟩) hS7 ?_
              · go_simp
              try simp only [List.getElem_toArray, List.getElem_cons_succ, List.getElem_cons_zero, Act.put, List.setIfInBounds_toArray, List.set_cons_zero, List.set_cons_succ]
              refine wpAnyH_take (i := 20) (v := .bool false) rfl (by kernel_rfl) (by kernel_rfl) (by kernel_rfl) (fun _ _ _ h => h) (Or.inl ⟨by kernel_rfl, fun w' hSw => ?_⟩) hS7 ?_
              · go_simp
              try simp only [List.getElem_toArray, List.getElem_cons_succ, List.getElem_cons_zero, Act.put, List.setIfInBounds_toArray, List.set_cons_zero, List.set_cons_succ]
              refine wpAnyH_done (by kernel_rfl) ?_ _
              go_upto_region 9 with (fail)
              have hS7d : Blk W7.drew B 23 #[.int .i64 (tr + 1), .int .i64 0] ∧ Blk W7.drew xt 23 #[.int .i64 tr, .int .i64 tn] ∧ W7.drew.cell? ⟨1, 0, none⟩ = some (errv (A 1)) := hS7
              have R8d := H8.out.below (Below.refl W7.heap.size W7).drew
              have H9 := Lib.hid R8d
              clear R8d
              refine wp_region_held_drew (S := fun w' => Blk w' B 23 #[.int .i64 (tr + 1), .int .i64 0] ∧ Blk w' xt 23 #[.int .i64 tr, .int .i64 tn] ∧ w'.cell? ⟨1, 0, none⟩ = some (errv (A 1))) (by kernel_rfl) hS7d (fun _ => ?_)
              refine wpAnyH_take (i := 0) (v := .pointer (some ⟨g, 0, none⟩)) rfl (by kernel_rfl) (by kernel_rfl) (by kernel_rfl) (fun _ _ _ h => h) (Or.inl ⟨by kernel_rfl, fun w' hSw => ?_⟩) hS7d ?_
              · go_simp
              try simp only [List.getElem_toArray, List.getElem_cons_succ, List.getElem_cons_zero, Act.put, List.setIfInBounds_toArray, List.set_cons_zero, List.set_cons_succ]
              refine wpAnyH_ready (rs := [1]) (by kernel_rfl) (by simp) ?_
              refine AllReadyH.cons rfl (fun K hK => ?_) AllReadyH.nil
              · go_simp
                refine H9.out.stage.mono ?_
                rintro e W8 ⟨rfl, b8⟩
                have R8 := H9.out.below b8
                have hS8 : Blk W8 B 23 #[.int .i64 (tr + 1), .int .i64 0] ∧ Blk W8 xt 23 #[.int .i64 tr, .int .i64 tn] ∧ W8.cell? ⟨1, 0, none⟩ = some (errv (A 1)) := ⟨hS7d.1.below b8 hS7d.1.lt, hS7d.2.1.below b8 hS7d.2.1.lt, R8.e HH.out.1 (by simp)⟩
                have H10 := Lib.hid R8
                clear R8 b8
                refine Shut.out hK _ _ hS8 (fun _ => ?_)
                clear hK K
                try simp only [List.getElem_toArray, List.getElem_cons_succ, List.getElem_cons_zero, Act.put, List.setIfInBounds_toArray, List.set_cons_zero, List.set_cons_succ]
                simp only [show (rd13 tr tn l 2).stage = 2 from rfl]
                refine wpAnyH_take (i := 2) (v := .bool true) rfl (by kernel_rfl) (by kernel_rfl) (by kernel_rfl) (fun _ _ _ h => h) (Or.inl ⟨by kernel_rfl, fun w' hSw => ?_⟩) hS8 ?_
                · go_simp
                try simp only [List.getElem_toArray, List.getElem_cons_succ, List.getElem_cons_zero, Act.put, List.setIfInBounds_toArray, List.set_cons_zero, List.set_cons_succ]
                refine wpAnyH_take (i := 3) (v := .bool true) rfl (by kernel_rfl) (by kernel_rfl) (by kernel_rfl) (fun _ _ _ h => h) (Or.inl ⟨by kernel_rfl, fun w' hSw => ?_⟩) hS8 ?_
                · go_simp
                try simp only [List.getElem_toArray, List.getElem_cons_succ, List.getElem_cons_zero, Act.put, List.setIfInBounds_toArray, List.set_cons_zero, List.set_cons_succ]
                refine wpAnyH_take (i := 4) (v := .pointer (some ⟨g, 0, none⟩)) rfl (by kernel_rfl) (by kernel_rfl) (by kernel_rfl) (fun _ _ _ h => h) (Or.inl ⟨by kernel_rfl, fun w' hSw => ?_⟩) hS8 ?_
                · go_simp
                try simp only [List.getElem_toArray, List.getElem_cons_succ, List.getElem_cons_zero, Act.put, List.setIfInBounds_toArray, List.set_cons_zero, List.set_cons_succ]
                refine wpAnyH_take (i := 6) (v := .slice Al nl cap) rfl (by kernel_rfl) (by kernel_rfl) (by kernel_rfl) (fun _ _ _ h => h) (Or.inl ⟨by kernel_rfl, fun w' hSw => ?_⟩) hS8 ?_
                · go_simp
                try simp only [List.getElem_toArray, List.getElem_cons_succ, List.getElem_cons_zero, Act.put, List.setIfInBounds_toArray, List.set_cons_zero, List.set_cons_succ]
                refine wpAnyH_ready (rs := [5]) (by kernel_rfl) (by simp) ?_
                refine AllReadyH.cons rfl (fun K hK => ?_) AllReadyH.nil
                · go_simp
                  refine H10.out.ledger.mono ?_
                  rintro e W9 ⟨v9, rfl, o9, b9⟩
                  rw [rd13_tells] at o9
                  obtain ⟨A9, c9, hv9, _⟩ := o9.at_.form
                  rw [← HH.out.2.2.1] at hv9
                  subst hv9
                  have R9 := H10.out.below b9
                  have hS9 : Blk W9 B 23 #[.int .i64 (tr + 1), .int .i64 0] ∧ Blk W9 xt 23 #[.int .i64 tr, .int .i64 tn] ∧ W9.cell? ⟨1, 0, none⟩ = some (errv (A 1)) := ⟨hS8.1.below b9 hS8.1.lt, hS8.2.1.below b9 hS8.2.1.lt, R9.e HH.out.1 (by simp)⟩
                  have k59 := same_any W9 _ W9.heap.size lo hi _ _ l l o9.at_ (HLK.out _ R9.bel).1 (Nat.le_refl _) (HLK.out _ R9.bel).2
                  rw [show tf (l = l) = true from by simp [tf]] at k59
                  have H11 := Lib.hid (And.intro R9 k59)
                  clear R9 o9 b9 k59
                  refine Shut.out hK _ _ hS9 (fun _ => ?_)
                  clear hK K
                  try simp only [List.getElem_toArray, List.getElem_cons_succ, List.getElem_cons_zero, Act.put, List.setIfInBounds_toArray, List.set_cons_zero, List.set_cons_succ]
                  refine wpAnyH_ready (rs := [7]) (by kernel_rfl) (by simp) ?_
                  refine AllReadyH.cons rfl (fun K hK => ?_) AllReadyH.nil
                  · go_simp
                    refine H11.out.2.mono ?_
                    rintro e W10 ⟨rfl, b10⟩
                    have R10 := H11.out.1.below b10
                    have hS10 : Blk W10 B 23 #[.int .i64 (tr + 1), .int .i64 0] ∧ Blk W10 xt 23 #[.int .i64 tr, .int .i64 tn] ∧ W10.cell? ⟨1, 0, none⟩ = some (errv (A 1)) := ⟨hS9.1.below b10 hS9.1.lt, hS9.2.1.below b10 hS9.2.1.lt, R10.e HH.out.1 (by simp)⟩
                    have H12 := Lib.hid R10
                    clear R10 b10
                    refine Shut.out hK _ _ hS10 (fun _ => ?_)
                    clear hK K
                    try simp only [List.getElem_toArray, List.getElem_cons_succ, List.getElem_cons_zero, Act.put, List.setIfInBounds_toArray, List.set_cons_zero, List.set_cons_succ]
                    refine wpAnyH_take (i := 8) (v := .bool true) rfl (by kernel_rfl) (by kernel_rfl) (by kernel_rfl) (fun _ _ _ h => h) (Or.inl ⟨by kernel_rfl, fun w' hSw => ?_⟩) hS10 ?_
                    · go_simp
                    try simp only [List.getElem_toArray, List.getElem_cons_succ, List.getElem_cons_zero, Act.put, List.setIfInBounds_toArray, List.set_cons_zero, List.set_cons_succ]
                    refine wpAnyH_take (i := 9) (v := .bool true) rfl (by kernel_rfl) (by kernel_rfl) (by kernel_rfl) (fun _ _ _ h => h) (Or.inl ⟨by kernel_rfl, fun w' hSw => ?_⟩) hS10 ?_
                    · go_simp
                    try simp only [List.getElem_toArray, List.getElem_cons_succ, List.getElem_cons_zero, Act.put, List.setIfInBounds_toArray, List.set_cons_zero, List.set_cons_succ]
                    refine wpAnyH_take (i := 10) (v := .pointer (some ⟨g, 0, none⟩)) rfl (by kernel_rfl) (by kernel_rfl) (by kernel_rfl) (fun _ _ _ h => h) (Or.inl ⟨by kernel_rfl, fun w' hSw => ?_⟩) hS10 ?_
                    · go_simp
                    try simp only [List.getElem_toArray, List.getElem_cons_succ, List.getElem_cons_zero, Act.put, List.setIfInBounds_toArray, List.set_cons_zero, List.set_cons_succ]
                    refine wpAnyH_take (i := 12) (v := .slice Al nl cap) rfl (by kernel_rfl) (by kernel_rfl) (by kernel_rfl) (fun _ _ _ h => h) (Or.inl ⟨by kernel_rfl, fun w' hSw => ?_⟩) hS10 ?_
                    · go_simp
                    try simp only [List.getElem_toArray, List.getElem_cons_succ, List.getElem_cons_zero, Act.put, List.setIfInBounds_toArray, List.set_cons_zero, List.set_cons_succ]
                    refine wpAnyH_take (i := 13) (v := .int .i64 nl) rfl (by kernel_rfl) (by kernel_rfl) (by kernel_rfl) (fun _ _ _ h => h) (Or.inl ⟨by kernel_rfl, fun w' hSw => ?_⟩) hS10 ?_
                    · go_simp
                    try simp only [List.getElem_toArray, List.getElem_cons_succ, List.getElem_cons_zero, Act.put, List.setIfInBounds_toArray, List.set_cons_zero, List.set_cons_succ]
                    refine wpAnyH_ready (rs := [11]) (by kernel_rfl) (by simp) ?_
                    refine AllReadyH.cons rfl (fun K hK => ?_) AllReadyH.nil
                    · go_simp
                      refine (H12.out.place HH.out.1).mono ?_
                      rintro e W11 ⟨rfl, b11⟩
                      have R11 := H12.out.below b11
                      have hS11 : Blk W11 B 23 #[.int .i64 (tr + 1), .int .i64 0] ∧ Blk W11 xt 23 #[.int .i64 tr, .int .i64 tn] ∧ W11.cell? ⟨1, 0, none⟩ = some (errv (A 1)) := ⟨hS10.1.below b11 hS10.1.lt, hS10.2.1.below b11 hS10.2.1.lt, R11.e HH.out.1 (by simp)⟩
                      have H13 := Lib.hid R11
                      clear R11 b11
                      refine Shut.out hK _ _ hS11 (fun _ => ?_)
                      clear hK K
                      try simp only [List.getElem_toArray, List.getElem_cons_succ, List.getElem_cons_zero, Act.put, List.setIfInBounds_toArray, List.set_cons_zero, List.set_cons_succ]
                      rw [rd13_place, ← HH.out.2.2.1]
                      refine wpAnyH_take (i := 14) (v := .bool true) rfl (by kernel_rfl) (by kernel_rfl) (by kernel_rfl) (fun _ _ _ h => h) (Or.inl ⟨by kernel_rfl, fun w' hSw => ?_⟩) hS11 ?_
                      · go_simp
                      try simp only [List.getElem_toArray, List.getElem_cons_succ, List.getElem_cons_zero, Act.put, List.setIfInBounds_toArray, List.set_cons_zero, List.set_cons_succ]
                      refine wpAnyH_take (i := 15) (v := .bool true) rfl (by kernel_rfl) (by kernel_rfl) (by kernel_rfl) (fun _ _ _ h => h) (Or.inl ⟨by kernel_rfl, fun w' hSw => ?_⟩) hS11 ?_
                      · go_simp
                      try simp only [List.getElem_toArray, List.getElem_cons_succ, List.getElem_cons_zero, Act.put, List.setIfInBounds_toArray, List.set_cons_zero, List.set_cons_succ]
                      refine wpAnyH_take (i := 16) (v := .bool true) rfl (by kernel_rfl) (by kernel_rfl) (by kernel_rfl) (fun _ _ _ h => h) (Or.inl ⟨by kernel_rfl, fun w' hSw => ?_⟩) hS11 ?_
                      · go_simp
                      try simp only [List.getElem_toArray, List.getElem_cons_succ, List.getElem_cons_zero, Act.put, List.setIfInBounds_toArray, List.set_cons_zero, List.set_cons_succ]
                      refine wpAnyH_take (i := 17) (v := .pointer (some ⟨g, 0, none⟩)) rfl (by kernel_rfl) (by kernel_rfl) (by kernel_rfl) (fun _ _ _ h => h) (Or.inl ⟨by kernel_rfl, fun w' hSw => ?_⟩) hS11 ?_
                      · go_simp
                      try simp only [List.getElem_toArray, List.getElem_cons_succ, List.getElem_cons_zero, Act.put, List.setIfInBounds_toArray, List.set_cons_zero, List.set_cons_succ]
                      refine wpAnyH_take (i := 18) (v := .agg #[.int .i64 (tr + 1), .int .i64 0]) rfl (by kernel_rfl) (by kernel_rfl) (by kernel_rfl) (fun _ _ _ h => h) ?_ hS11 ?_
                      · refine yieldsIf_load_mid ?_ 23 (.tmp 7) ?_ B 0 ?_ [.int .i64 (tr + 1), .int .i64 0] _ (fun w' hw => Blk.range (cs := [.int .i64 (tr + 1), .int .i64 0]) hw.1) Tryd.underlying23 ?_ bal_info13
                        · kernel_rfl
                        · rfl
                        · kernel_rfl
                        · rfl
                      try simp only [List.getElem_toArray, List.getElem_cons_succ, List.getElem_cons_zero, Act.put, List.setIfInBounds_toArray, List.set_cons_zero, List.set_cons_succ]
                      refine wpAnyH_ready (rs := [19]) (by kernel_rfl) (by simp) ?_
                      refine AllReadyH.cons rfl (fun K hK => ?_) AllReadyH.nil
                      · go_simp
                        refine (H13.out.accepted_yes (j := 0) (br := tr + 1) (bn := 0) (by rfl) ⟨rfl, rfl⟩ (by omega) rfl).mono ?_
                        rintro e W12 ⟨rfl, R12, F12⟩
                        have hS12 : Blk W12 B 23 #[.int .i64 (tr + 1), .int .i64 0] ∧ Blk W12 xt 23 #[.int .i64 tr, .int .i64 tn] ∧ W12.cell? ⟨1, 0, none⟩ = some (errv (A 1)) := ⟨hS11.1.fr F12 hS11.1.lt (by have := hne; omega), hS11.2.1.fr F12 hS11.2.1.lt (by have := hne; omega), R12.e HH.out.1 (by simp)⟩
                        rw [rd13_acc] at R12
                        have H14 := Lib.hid R12
                        clear R12 F12
                        refine Shut.out hK _ _ hS12 (fun _ => ?_)
                        clear hK K
                        try simp only [List.getElem_toArray, List.getElem_cons_succ, List.getElem_cons_zero, Act.put, List.setIfInBounds_toArray, List.set_cons_zero, List.set_cons_succ]
                        refine wpAnyH_take (i := 20) (v := .bool true) rfl (by kernel_rfl) (by kernel_rfl) (by kernel_rfl) (fun _ _ _ h => h) (Or.inl ⟨by kernel_rfl, fun w' hSw => ?_⟩) hS12 ?_
                        · go_simp
                        try simp only [List.getElem_toArray, List.getElem_cons_succ, List.getElem_cons_zero, Act.put, List.setIfInBounds_toArray, List.set_cons_zero, List.set_cons_succ]
                        refine wpAnyH_take (i := 21) (v := .bool true) rfl (by kernel_rfl) (by kernel_rfl) (by kernel_rfl) (fun _ _ _ h => h) (Or.inl ⟨by kernel_rfl, fun w' hSw => ?_⟩) hS12 ?_
                        · go_simp
                        try simp only [List.getElem_toArray, List.getElem_cons_succ, List.getElem_cons_zero, Act.put, List.setIfInBounds_toArray, List.set_cons_zero, List.set_cons_succ]
                        refine wpAnyH_take (i := 22) (v := .pointer (some ⟨g, 0, none⟩)) rfl (by kernel_rfl) (by kernel_rfl) (by kernel_rfl) (fun _ _ _ h => h) (Or.inl ⟨by kernel_rfl, fun w' hSw => ?_⟩) hS12 ?_
                        · go_simp
                        try simp only [List.getElem_toArray, List.getElem_cons_succ, List.getElem_cons_zero, Act.put, List.setIfInBounds_toArray, List.set_cons_zero, List.set_cons_succ]
                        refine wpAnyH_ready (rs := [23]) (by kernel_rfl) (by simp) ?_
                        refine AllReadyH.cons rfl (fun K hK => ?_) AllReadyH.nil
                        · go_simp
                          refine H14.out.stage.mono ?_
                          rintro e W13 ⟨rfl, b13⟩
                          have R13 := H14.out.below b13
                          have hS13 : Blk W13 B 23 #[.int .i64 (tr + 1), .int .i64 0] ∧ Blk W13 xt 23 #[.int .i64 tr, .int .i64 tn] ∧ W13.cell? ⟨1, 0, none⟩ = some (errv (A 1)) := ⟨hS12.1.below b13 hS12.1.lt, hS12.2.1.below b13 hS12.2.1.lt, R13.e HH.out.1 (by simp)⟩
                          have H15 := Lib.hid R13
                          clear R13 b13
                          refine Shut.out hK _ _ hS13 (fun _ => ?_)
                          clear hK K
                          try simp only [List.getElem_toArray, List.getElem_cons_succ, List.getElem_cons_zero, Act.put, List.setIfInBounds_toArray, List.set_cons_zero, List.set_cons_succ]
                          simp only [show (rd13 tr tn l 3).stage = 3 from rfl]
                          refine wpAnyH_take (i := 24) (v := .bool true) rfl (by kernel_rfl) (by kernel_rfl) (by kernel_rfl) (fun _ _ _ h => h) (Or.inl ⟨by kernel_rfl, fun w' hSw => ?_⟩) hS13 ?_
                          · go_simp
                          try simp only [List.getElem_toArray, List.getElem_cons_succ, List.getElem_cons_zero, Act.put, List.setIfInBounds_toArray, List.set_cons_zero, List.set_cons_succ]
                          refine wpAnyH_take (i := 25) (v := .bool true) rfl (by kernel_rfl) (by kernel_rfl) (by kernel_rfl) (fun _ _ _ h => h) (Or.inl ⟨by kernel_rfl, fun w' hSw => ?_⟩) hS13 ?_
                          · go_simp
                          try simp only [List.getElem_toArray, List.getElem_cons_succ, List.getElem_cons_zero, Act.put, List.setIfInBounds_toArray, List.set_cons_zero, List.set_cons_succ]
                          refine wpAnyH_take (i := 26) (v := .bool true) rfl (by kernel_rfl) (by kernel_rfl) (by kernel_rfl) (fun _ _ _ h => h) (Or.inl ⟨by kernel_rfl, fun w' hSw => ?_⟩) hS13 ?_
                          · go_simp
                          try simp only [List.getElem_toArray, List.getElem_cons_succ, List.getElem_cons_zero, Act.put, List.setIfInBounds_toArray, List.set_cons_zero, List.set_cons_succ]
                          refine wpAnyH_take (i := 27) (v := .pointer (some ⟨g, 0, none⟩)) rfl (by kernel_rfl) (by kernel_rfl) (by kernel_rfl) (fun _ _ _ h => h) (Or.inl ⟨by kernel_rfl, fun w' hSw => ?_⟩) hS13 ?_
                          · go_simp
                          try simp only [List.getElem_toArray, List.getElem_cons_succ, List.getElem_cons_zero, Act.put, List.setIfInBounds_toArray, List.set_cons_zero, List.set_cons_succ]
                          refine wpAnyH_take (i := 28) (v := .pointer (some ⟨xt, 0, none⟩)) rfl (by kernel_rfl) (by kernel_rfl) (by kernel_rfl) (fun _ _ _ h => h) (Or.inl ⟨by kernel_rfl, fun w' hSw => ?_⟩) hS13 ?_
                          · go_simp
                          try simp only [List.getElem_toArray, List.getElem_cons_succ, List.getElem_cons_zero, Act.put, List.setIfInBounds_toArray, List.set_cons_zero, List.set_cons_succ]
                          refine wpAnyH_take (i := 29) (v := .int .i64 tr) rfl (by kernel_rfl) (by kernel_rfl) (by kernel_rfl) (fun _ _ _ h => h) (Or.inl ⟨by kernel_rfl, fun w' hSw => ?_⟩) hS13 ?_
                          · (have hcv : w'.cell? ⟨xt, 0, none⟩ = some (.int .i64 tr) := hSw.2.1.cell 0; go_simp)
                          try simp only [List.getElem_toArray, List.getElem_cons_succ, List.getElem_cons_zero, Act.put, List.setIfInBounds_toArray, List.set_cons_zero, List.set_cons_succ]
                          refine wpAnyH_take (i := 30) (v := .int .i64 (tr + 2)) rfl (by kernel_rfl) (by kernel_rfl) (by kernel_rfl) (fun _ _ _ h => h) (Or.inl ⟨by kernel_rfl, fun w' hSw => ?_⟩) hS13 ?_
                          · go_simp
                          try simp only [List.getElem_toArray, List.getElem_cons_succ, List.getElem_cons_zero, Act.put, List.setIfInBounds_toArray, List.set_cons_zero, List.set_cons_succ]
                          refine wpAnyH_take (i := 31) (v := .agg #[.int .i64 (tr + 2), .int .i64 0]) rfl (by kernel_rfl) (by kernel_rfl) (by kernel_rfl) (fun _ _ _ h => h) (Or.inl ⟨by kernel_rfl, fun w' hSw => ?_⟩) hS13 ?_
                          · go_simp
                          try simp only [List.getElem_toArray, List.getElem_cons_succ, List.getElem_cons_zero, Act.put, List.setIfInBounds_toArray, List.set_cons_zero, List.set_cons_succ]
                          refine wpAnyH_take (i := 33) (v := errv (A 1)) rfl (by kernel_rfl) (by kernel_rfl) (by kernel_rfl) (fun _ _ _ h => h) (Or.inl ⟨by kernel_rfl, fun w' hSw => ?_⟩) hS13 ?_
                          · (have hcv := hSw.2.2; go_simp)
                          try simp only [List.getElem_toArray, List.getElem_cons_succ, List.getElem_cons_zero, Act.put, List.setIfInBounds_toArray, List.set_cons_zero, List.set_cons_succ]
                          refine wpAnyH_ready (rs := [32]) (by kernel_rfl) (by simp) ?_
                          refine AllReadyH.cons rfl (fun K hK => ?_) AllReadyH.nil
                          · go_simp
                            refine (H15.out.begin_late HH.out.1 (by show (3 : Int) ≤ 3; omega)).mono ?_
                            rintro e W14 ⟨rfl, b14⟩
                            have R14 := H15.out.below b14
                            have hS14 : Blk W14 B 23 #[.int .i64 (tr + 1), .int .i64 0] ∧ Blk W14 xt 23 #[.int .i64 tr, .int .i64 tn] ∧ W14.cell? ⟨1, 0, none⟩ = some (errv (A 1)) := ⟨hS13.1.below b14 hS13.1.lt, hS13.2.1.below b14 hS13.2.1.lt, R14.e HH.out.1 (by simp)⟩
                            have H16 := Lib.hid R14
                            have heq := errEq_same (A 1)
                            clear R14 b14
                            refine Shut.out hK _ _ hS14 (fun _ => ?_)
                            clear hK K
                            try simp only [List.getElem_toArray, List.getElem_cons_succ, List.getElem_cons_zero, Act.put, List.setIfInBounds_toArray, List.set_cons_zero, List.set_cons_succ]
                            refine wpAnyH_take (i := 34) (v := .bool true) rfl (by kernel_rfl) (by kernel_rfl) (by kernel_rfl) (fun _ _ _ h => h) (Or.inl ⟨by kernel_rfl, fun w' hSw => ?_⟩) hS14 ?_
                            · go_simp
                            try simp only [List.getElem_toArray, List.getElem_cons_succ, List.getElem_cons_zero, Act.put, List.setIfInBounds_toArray, List.set_cons_zero, List.set_cons_succ]
                            refine wpAnyH_take (i := 35) (v := .bool true) rfl (by kernel_rfl) (by kernel_rfl) (by kernel_rfl) (fun _ _ _ h => h) (Or.inl ⟨by kernel_rfl, fun w' hSw => ?_⟩) hS14 ?_
                            · go_simp
                            try simp only [List.getElem_toArray, List.getElem_cons_succ, List.getElem_cons_zero, Act.put, List.setIfInBounds_toArray, List.set_cons_zero, List.set_cons_succ]
                            refine wpAnyH_take (i := 36) (v := .bool true) rfl (by kernel_rfl) (by kernel_rfl) (by kernel_rfl) (fun _ _ _ h => h) (Or.inl ⟨by kernel_rfl, fun w' hSw => ?_⟩) hS14 ?_
                            · go_simp
                            try simp only [List.getElem_toArray, List.getElem_cons_succ, List.getElem_cons_zero, Act.put, List.setIfInBounds_toArray, List.set_cons_zero, List.set_cons_succ]
                            refine wpAnyH_done (by kernel_rfl) ?_ _
                            go_wp2_with (fail)
                            go_ret
                            exact ⟨rfl, H16.out.bel⟩
end Go.Proofs.YtnlncfjibbdimaaDoor
