/-
  A round's Promise.
-/
import Derived.Test.YtnlncfjibbdimaaDoorTell13
import Derived.Deep.DeepCutAuto
namespace Go.Proofs.YtnlncfjibbdimaaDoor
open Go.RowKit
set_option linter.unusedSimpArgs false
set_option linter.unusedVariables false

theorem blk_ne13 {w : World} {g h : Nat} {t u : TypeId} {a b : Array Value} (h1 : Blk w g t a) (h2 : Blk w h u b) (hne : t ≠ u) : g ≠ h := fun e => by
  subst e
  unfold Blk at h1 h2
  rw [h1] at h2
  injection h2 with h2
  injection h2 with _ h2
  exact hne h2
theorem bal_info13 : (Tryd.prog.info? 23).map (·.size) = some 2 := by kernel_rfl
/-- What Promise answers. -/
def PromPost (B g ga n : Nat) (f : Nat → Bool) (r : Rnd) (pv lv : Value) (from_ br bn ar an : Int) (l : List Cmd) (w : World) (e : Ending) (w' : World) : Prop :=
  (¬ fitsR r n f 1 from_ br bn ∧ e = .returned (.bool false) ∧ Below w.heap.size w w') ∨
  (r.stage = 1 ∧ (br = r.br ∧ bn = r.bn) ∧ ∃ j : Nat, from_ = j ∧ j < n ∧ f j = false ∧ e = .returned (.bool true) ∧
    ∃ lv', RndAt w' B g ga n (promF n f j) (r.promised n f j ar an l) pv lv' ∧ Fr w.heap.size (fun k => k = g ∨ k = ga) w w' ∧ ((lv' = lv ∧ (r.promised n f j ar an l).led = r.led) ∨ OwnLed w' w.heap.size w'.heap.size lv' (r.promised n f j ar an l).led))

/-- The end of Promise: behind the newest. -/
theorem PromPost.last {B g ga n : Nat} {f : Nat → Bool} {r : Rnd} {pv lv lv1 : Value} {br bn ar an : Int} {l : List Cmd} {w w2 w3 : World} {j : Nat} (hs : r.stage = 1) (hb : br = r.br ∧ bn = r.bn) (hj : j < n) (hf : f j = false) (R2 : RndAt w2 B g ga n (upd f j true) (r.newer ar an l) pv lv1)
    (F2 : Fr w.heap.size (fun k => k = g ∨ k = ga) w w2) (hled : (lv1 = lv ∧ (r.newer ar an l).led = r.led) ∨ OwnLed w2 w.heap.size w2.heap.size lv1 (r.newer ar an l).led) (b3 : Below w2.heap.size w2 w3) (hm : ¬ half n ≤ (cnt n (upd f j true) : Nat)) :
    PromPost B g ga n f r pv lv j br bn ar an l w (.returned (.bool true)) w3 := by
  refine .inr ⟨hs, hb, j, rfl, hj, hf, rfl, lv1, ?_, F2.trans ((Fr.of_below b3 _).mono F2.size (fun _ _ h => h)), ?_⟩
  · unfold promF Rnd.promised
    rw [if_neg hm, if_neg hm]
    exact R2.below b3 (Nat.le_refl _)
  · unfold Rnd.promised
    rw [if_neg hm]
    rcases hled with h | h
    · exact .inl h
    · exact .inr ((h.fr (Fr.of_below b3 (fun _ => False)) (Nat.le_refl _) (fun _ _ _ h => h)).wider (Nat.le_refl _) b3.size)
theorem PromPost.tells {B g ga n : Nat} {f : Nat → Bool} {r : Rnd} {pv lv lv1 : Value} {br bn ar an : Int} {l : List Cmd} {w w2 w3 w4 : World} {e : Ending} {j : Nat} (hs : r.stage = 1) (hb : br = r.br ∧ bn = r.bn) (hj : j < n) (hf : f j = false) (hgw : g < w.heap.size) (hgaw : ga < w.heap.size)
    (F2 : Fr w.heap.size (fun k => k = g ∨ k = ga) w w2) (hled : (lv1 = lv ∧ (r.newer ar an l).led = r.led) ∨ OwnLed w2 w.heap.size w2.heap.size lv1 (r.newer ar an l).led) (b3 : Below w2.heap.size w2 w3) (hm : half n ≤ (cnt n (upd f j true) : Nat)) (ht : TellPost B g ga n (r.newer ar an l) pv lv1 w3 e w4) :
    PromPost B g ga n f r pv lv j br bn ar an l w (.returned (.bool true)) w4 := by
  obtain ⟨_, lv', R4, F4, hl⟩ := ht
  have F3 := F2.trans ((Fr.of_below b3 (fun k => k = g ∨ k = ga)).mono F2.size (fun _ _ h => h))
  refine .inr ⟨hs, hb, j, rfl, hj, hf, rfl, lv', ?_, F3.trans (F4.mono F3.size (fun _ _ h => h)), ?_⟩
  · unfold promF Rnd.promised
    rw [if_pos hm, if_pos hm]
    exact R4
  · unfold Rnd.promised
    rw [if_pos hm]
    rcases hl with ⟨h1, h2⟩ | h
    · rcases hled with ⟨k1, k2⟩ | k
      · exact .inl ⟨h1.trans k1, h2.trans k2⟩
      · right
        rw [h1, h2]
        have k3 := (k.fr (Fr.of_below b3 (fun _ => False)) (Nat.le_refl _) (fun _ _ _ h => h)).wider (Nat.le_refl _) b3.size
        exact (k3.fr F4 (Nat.le_refl _) (fun q q1 _ hq => by omega)).wider (Nat.le_refl _) F4.size
    · exact .inr (h.wider F3.size (Nat.le_refl _))
theorem RndAt.snew {w : World} {B g ga n : Nat} {f : Nat → Bool} {r : Rnd} {pv lv lv' : Value} {l : List Cmd} (h : RndAt w B g ga n f r pv lv) (hl : LedAt w B w.heap.size lv' l) (ar an : Int) :
    RndAt (((w.setCell ⟨g, 23, none⟩ (.int .i64 ar)).setCell ⟨g, 24, none⟩ (.int .i64 an)).setCell ⟨g, 25, none⟩ lv') B g ga n f { r with nr := ar, nn := an, led := l } pv lv' ∧
    Fr w.heap.size (fun k => k = g) w (((w.setCell ⟨g, 23, none⟩ (.int .i64 ar)).setCell ⟨g, 24, none⟩ (.int .i64 an)).setCell ⟨g, 25, none⟩ lv') := by
  have h1 := h.hg
  have h2 := h.hB
  have a := h.snr ar
  have b := a.1.snn an
  have s1 := a.2.trans (b.2.mono a.2.size (fun _ _ h => h))
  have hl' : LedAt ((w.setCell ⟨g, 23, none⟩ (.int .i64 ar)).setCell ⟨g, 24, none⟩ (.int .i64 an)) B ((w.setCell ⟨g, 23, none⟩ (.int .i64 ar)).setCell ⟨g, 24, none⟩ (.int .i64 an)).heap.size lv' l :=
    (hl.fr s1 (Nat.le_refl _) (fun k q1 _ he => by omega)).wider (Nat.le_refl _) s1.size
  have c := b.1.sled2 hl'
  exact ⟨c.1, s1.trans (c.2.mono s1.size (fun _ _ h => h))⟩

set_option maxRecDepth 100000 in
set_option maxHeartbeats 3200000 in
theorem promise_any (w : World) (B g ga n : Nat) (f : Nat → Bool) (r : Rnd) (pv lv : Value) (h : RndAt w B g ga n f r pv lv) (hn : 0 < n) (from_ br bn ar an : Int) (lo hi : Nat) (lva : Value) (l : List Cmd) (hL : LedAt w lo hi lva l) (hhi : hi ≤ w.heap.size) (hlo : ga < lo ∨ hi ≤ ga) (a4 : Addr) (h4 : w.cell? ⟨4, 0, none⟩ = some (errv a4)) :
    Calls Tryd.prog 58 #[.pointer (some ⟨g, 0, none⟩), .int .i64 from_, .agg #[.int .i64 br, .int .i64 bn], .agg #[.int .i64 ar, .int .i64 an], lva] w (PromPost B g ga n f r pv lv from_ br bn ar an l w) := by
  obtain ⟨W, hW⟩ : ∃ W, W = (w.alloc (.cells #[.int .i64 br, .int .i64 bn] 23)).alloc (.cells #[.int .i64 ar, .int .i64 an] 23) := ⟨_, rfl⟩
  have bA : Below w.heap.size w W := by rw [hW]; exact ((Below.refl _ _).alloc (Nat.le_refl _) _).alloc (by simp) _
  have hX : Blk W w.heap.size 23 #[.int .i64 br, .int .i64 bn] := by rw [hW]; exact (Blk.new w 23 _).alloc _
  have hY : Blk W (w.heap.size + 1) 23 #[.int .i64 ar, .int .i64 an] := by rw [hW]; exact Blk.new1 w _ 23 _
  have x0 := hX.cell 0
  have x1 := hX.cell 1
  have hgB := h.hg
  have hgaB := h.hga
  have hBw := h.hB
  have h4l := World.block_lt_of_cell? w _ h4
  have hne := h.ne4 hn h4
  have RW := h.below bA (Nat.le_refl _)
  have HG := Lib.hid (show g < w.heap.size ∧ ga < w.heap.size from ⟨by omega, by omega⟩)
  have k117 := hear_any W B g ga n f r pv lv RW 1 from_ br bn
  have hLW : LedAt W lo hi lva l := hL.fr (Fr.of_below bA (fun _ => False)) hhi (fun _ _ _ h => h)
  obtain ⟨A, cap, rfl, _⟩ := hL.form
  obtain ⟨nl, hnl⟩ : ∃ nl, nl = l.length := ⟨_, rfl⟩
  rw [← hnl] at hLW ⊢
  have HN := Lib.hid hnl
  have h4W : W.cell? ⟨4, 0, none⟩ = some (errv a4) := (bA.cell (p := ⟨4, 0, none⟩) h4l).trans h4
  have HK := Lib.hid (And.intro k117 (And.intro bA (And.intro hLW (And.intro hY (And.intro h4W (And.intro hne (And.intro (Nat.lt_of_lt_of_le h4l bA.size) (And.intro hhi hlo))))))))
  clear h bA hX k117 hLW hY hL RW hhi hlo h4 h4W hne h4l hnl
  go_enter Tryd.func58, Tryd.ntmps58
  go_upto_region 1 with (fail)
  rw [← hW]
  clear hW
  go_upto_region 3 with (first | (go_at_call 117; refine HK.out.1.mono ?_; rintro e w1 (⟨hf, rfl, b1⟩ | ⟨hs, hb, j, rfl, hj, hfj, rfl, R1, F1⟩)) | fail)
  · go_wp2_with (fail)
    go_ret
    exact .inl ⟨hf, rfl, HK.out.2.1.trans (b1.mono HK.out.2.1.size)⟩
  · obtain ⟨y, hy⟩ : ∃ y, y = w.heap.size + 1 := ⟨_, rfl⟩
    have hY1 : Blk w1 y 23 #[.int .i64 ar, .int .i64 an] := by rw [hy]; exact HK.out.2.2.2.1.fr F1 HK.out.2.2.2.1.lt (by omega)
    have hL1 : LedAt w1 lo hi (.slice A nl cap) l := HK.out.2.2.1.fr F1 (Nat.le_trans HK.out.2.2.2.2.2.2.2.1 HK.out.2.1.size) (fun k h1 h2 he => by have := HK.out.2.2.2.2.2.2.2.2; omega)
    have h41 : w1.cell? ⟨4, 0, none⟩ = some (errv a4) := (F1.cell (p := ⟨4, 0, none⟩) HK.out.2.2.2.2.2.2.1 HK.out.2.2.2.2.2.1.2).trans HK.out.2.2.2.2.1
    rw [← hy]
    have F01 : Fr w.heap.size (fun k => k = g ∨ k = ga) w w1 := (Fr.of_below HK.out.2.1 _).trans (F1.mono HK.out.2.1.size (fun _ _ h => .inr h))
    have cY : ∀ d os i, (Go.Sort.grow (redrawn w1 d) os).cell? ⟨y, i, none⟩ = (#[.int .i64 ar, .int .i64 an] : Array Value)[i]? := fun d os => (hY1.below (below_regrown w1 d os) hY1.lt).cell
    have c23 : ∀ d os, (Go.Sort.grow (redrawn w1 d) os).cell? ⟨g, 23, none⟩ = some (.int .i64 r.nr) := fun d os => (R1.below (below_regrown w1 d os) (Nat.le_refl _)).row.cell 23
    have c24 : ∀ d os, (Go.Sort.grow (redrawn w1 d) os).cell? ⟨g, 24, none⟩ = some (.int .i64 r.nn) := fun d os => (R1.below (below_regrown w1 d os) (Nat.le_refl _)).row.cell 24
    have hhi1 : hi ≤ w1.heap.size := Nat.le_trans HK.out.2.2.2.2.2.2.2.1 F01.size
    have h4l1 : 4 < w1.heap.size := Nat.lt_of_lt_of_le HK.out.2.2.2.2.2.2.1 F1.size
    have H1 := Lib.hid (And.intro R1 (And.intro F01 (And.intro hL1 (And.intro h41 (And.intro hY1 (And.intro hs (And.intro hb (And.intro hfj (And.intro hhi1 h4l1)))))))))
    clear R1 F1 F01 hL1 h41 hY1 hs hb hfj hy x0 x1 hhi1 h4l1 hgB hgaB hBw
    cases hab : ab ar an r.nr r.nn with
    | false =>
      have k23 : ∀ W, Calls Tryd.prog 23 #[.agg #[.int .i64 ar, .int .i64 an], .agg #[.int .i64 r.nr, .int .i64 r.nn]] W fun e w' => e = .returned (.bool false) ∧ Below W.heap.size W w' := fun W => by rw [← hab]; exact above_any ar an r.nr r.nn W
      have hnew : r.newer ar an l = r := by unfold Rnd.newer; rw [hab]; rfl
      have HA := Lib.hid hnew
      clear hab hnew
      try simp only [List.cons_append, List.nil_append, List.append_eq]
      refine wp_region_quiet_cheap (by kernel_rfl) (by kernel_rfl) (by kernel_rfl) (by kernel_rfl) ?_
      repeat (go_big_quiet_step (first | (with_reducible exact Calls.regrown_of (k23 _))))
      refine wpQuiet_nil ?_
      intro _ hw'
      obtain ⟨⟨dq, osq⟩, hw''⟩ := hw'
      subst hw''
      clear cY c23 c24 k23
      obtain ⟨w2, hw2⟩ : ∃ w2, w2 = Go.Sort.grow (redrawn w1 dq) osq := ⟨_, rfl⟩
      have b2 : Below w1.heap.size w1 w2 := by rw [hw2]; exact below_regrown w1 dq osq
      rw [← hw2]
      clear hw2
      have R2 := H1.out.1.below b2 (Nat.le_refl _)
      have F2 := H1.out.2.1.trans ((Fr.of_below b2 (fun k => k = g ∨ k = ga)).mono H1.out.2.1.size (fun _ _ h => h))
      have h42 : w2.cell? ⟨4, 0, none⟩ = some (errv a4) := (b2.cell (p := ⟨4, 0, none⟩) H1.out.2.2.2.2.2.2.2.2.2).trans H1.out.2.2.2.1
      have R2' : RndAt w2 B g ga n (upd f j true) (r.newer ar an l) pv lv := by rw [HA.out]; exact R2
      have hled : (lv = lv ∧ (r.newer ar an l).led = r.led) ∨ OwnLed w2 w.heap.size w2.heap.size lv (r.newer ar an l).led := .inl ⟨rfl, by rw [HA.out]⟩
      have k119 := most_any w2 B g ga n (upd f j true) (r.newer ar an l) pv lv R2'
      by_cases hm : half n ≤ (cnt n (upd f j true) : Nat)
      · rw [decide_eq_true hm] at k119
        have k120 : ∀ w3, Below w2.heap.size w2 w3 → Calls Tryd.prog 120 #[.pointer (some ⟨g, 0, none⟩)] w3 (TellPost B g ga n (r.newer ar an l) pv lv w3) := fun w3 b =>
          tell_any w3 B g ga n _ _ pv _ (R2'.below b (Nat.le_refl _)) hn a4 ((b.cell (p := ⟨4, 0, none⟩) (World.block_lt_of_cell? w2 _ h42)).trans h42)
        have hbw : B ≤ w2.heap.size := R2'.hB
        have hret : ∀ w3 w4 e, Below w2.heap.size w2 w3 → TellPost B g ga n (r.newer ar an l) pv lv w3 e w4 → PromPost B g ga n f r pv lv j br bn ar an l w (.returned (.bool true)) w4 := fun w3 w4 e b ht =>
          PromPost.tells H1.out.2.2.2.2.2.1 H1.out.2.2.2.2.2.2.1 hj H1.out.2.2.2.2.2.2.2.1 HG.out.1 HG.out.2 F2 hled b hm ht
        have HT := Lib.hid (And.intro k119 (And.intro k120 hret))
        clear k119 k120 hret hm R2' F2 hled h42
        go_wp2_with (first
          | (go_at_call 119; refine HT.out.1.mono ?_; rintro e w3 ⟨rfl, b3⟩; have H3 := Lib.hid b3; clear b3)
          | (go_at_call 120; refine (HT.out.2.1 w3 H3.out).mono ?_; rintro e w4 ht; obtain rfl := ht.1; have H4 := Lib.hid ht; clear ht)
          | fail)
        go_ret
        exact HT.out.2.2 w3 w4 _ H3.out H4.out
      · rw [decide_eq_false hm] at k119
        have hret : ∀ w3, Below w2.heap.size w2 w3 → PromPost B g ga n f r pv lv j br bn ar an l w (.returned (.bool true)) w3 := fun w3 b =>
          PromPost.last H1.out.2.2.2.2.2.1 H1.out.2.2.2.2.2.2.1 hj H1.out.2.2.2.2.2.2.2.1 R2' F2 hled b hm
        have HT := Lib.hid (And.intro k119 hret)
        clear k119 hret hm R2' F2 hled h42
        go_wp2_with (first
          | (go_at_call 119; refine HT.out.1.mono ?_; rintro e w3 ⟨rfl, b3⟩; have H3 := Lib.hid b3; clear b3)
          | fail)
        go_ret
        exact HT.out.2 w3 H3.out
    | true =>
      have k23 : ∀ W, Calls Tryd.prog 23 #[.agg #[.int .i64 ar, .int .i64 an], .agg #[.int .i64 r.nr, .int .i64 r.nn]] W fun e w' => e = .returned (.bool true) ∧ Below W.heap.size W w' := fun W => by rw [← hab]; exact above_any ar an r.nr r.nn W
      have hnew : r.newer ar an l = { r with nr := ar, nn := an, led := l } := by unfold Rnd.newer; rw [hab]; rfl
      have HA := Lib.hid hnew
      clear hab hnew
      try simp only [List.cons_append, List.nil_append, List.append_eq]
      refine wp_region_quiet_cheap (by kernel_rfl) (by kernel_rfl) (by kernel_rfl) (by kernel_rfl) ?_
      repeat (go_big_quiet_step (first | (with_reducible exact Calls.regrown_of (k23 _))))
      refine wpQuiet_nil ?_
      intro _ hw'
      obtain ⟨⟨dq, osq⟩, hw''⟩ := hw'
      subst hw''
      clear cY c23 c24 k23
      obtain ⟨w2, hw2⟩ : ∃ w2, w2 = Go.Sort.grow (redrawn w1 dq) osq := ⟨_, rfl⟩
      have b2 : Below w1.heap.size w1 w2 := by rw [hw2]; exact below_regrown w1 dq osq
      rw [← hw2]
      clear hw2
      have R2 := H1.out.1.below b2 (Nat.le_refl _)
      have F2 := H1.out.2.1.trans ((Fr.of_below b2 (fun k => k = g ∨ k = ga)).mono H1.out.2.1.size (fun _ _ h => h))
      have h42 : w2.cell? ⟨4, 0, none⟩ = some (errv a4) := (b2.cell (p := ⟨4, 0, none⟩) H1.out.2.2.2.2.2.2.2.2.2).trans H1.out.2.2.2.1
      have Y2 := H1.out.2.2.2.2.1.below b2 H1.out.2.2.2.2.1.lt
      have L2 := H1.out.2.2.1.fr (Fr.of_below b2 (fun _ => False)) H1.out.2.2.2.2.2.2.2.2.1 (fun _ _ _ h => h)
      have hhi2 := Nat.le_trans H1.out.2.2.2.2.2.2.2.2.1 b2.size
      have k118 : ∀ W', Below w2.heap.size w2 W' → Calls Tryd.prog 118 #[.slice A nl cap] W' (CopyPost W' l) := fun W' b => copied118_any W' lo hi _ l (L2.fr (Fr.of_below b (fun _ => False)) hhi2 (fun _ _ _ h => h)) (Nat.le_trans hhi2 b.size)
      have hYs : y ≠ g ∧ y < w2.heap.size ∧ ∀ W', Below w2.heap.size w2 W' → W'.cell? ⟨y, 0, none⟩ = some (.int .i64 ar) ∧ W'.cell? ⟨y, 1, none⟩ = some (.int .i64 an) := ⟨blk_ne13 Y2 R2.row (by decide), Y2.lt, fun W' b => ⟨(Y2.below b Y2.lt).cell 0, (Y2.below b Y2.lt).cell 1⟩⟩
      have H2 := Lib.hid (And.intro R2 (And.intro F2 (And.intro h42 (And.intro k118 hYs))))
      clear R2 F2 h42 Y2 L2 hhi2 k118 hYs b2
      go_upto_region 4 with (fail)
      have hBr : Below w2.heap.size w2 w2.drew := (Below.refl w2.heap.size w2).drew
      have hgw2 := H2.out.1.hg
      have hBw2 := H2.out.1.hB
      go_cut [10] (fun v10 wx => ∃ A1 c1, v10 = .bool false ∧ RndAt wx B g ga n (upd f j true) (r.newer ar an l) pv (.slice A1 nl c1) ∧ Fr w.heap.size (fun k => k = g ∨ k = ga) w wx ∧ OwnLed wx w.heap.size wx.heap.size (.slice A1 nl c1) (r.newer ar an l).led ∧ wx.cell? ⟨4, 0, none⟩ = some (errv a4))
      case first =>
        have hgy : ¬ y = g := H2.out.2.2.2.2.1
        have hgy2 : ¬ g = y := fun e => hgy e.symm
        have hyB : y < w2.heap.size := H2.out.2.2.2.2.2.1
        have cy : ∀ W', Below w2.heap.size w2 W' → W'.cell? ⟨y, 0, none⟩ = some (.int .i64 ar) ∧ W'.cell? ⟨y, 1, none⟩ = some (.int .i64 an) := H2.out.2.2.2.2.2.2
        obtain ⟨k1, k2⟩ := cy w2 (Below.refl _ _)
        have HY := Lib.hid cy
        clear cy
        go_region_held3 (fun w' => w'.cell? ⟨y, 0, none⟩ = some (.int .i64 ar) ∧ w'.cell? ⟨y, 1, none⟩ = some (.int .i64 an)) (go_keep)
          (first
            | (go_at_call 118
               refine (H2.out.2.2.2.1 _ hBr).mono ?_
               rintro e u1 ⟨v1, rfl, o1, d1⟩
               have hb1 := hBr.trans (d1.mono hBr.size)
               obtain ⟨A1, c1, hv1, _⟩ := o1.at_.form
               rw [← HN.out] at hv1
               subst hv1
               have R1 := H2.out.1.below hb1 (Nat.le_refl _)
               obtain ⟨k1', k2'⟩ := HY.out _ hb1
               have c23 : u1.cell? ⟨g, 23, none⟩ = some (.int .i64 r.nr) := R1.row.cell 23
               have c24 : u1.cell? ⟨g, 24, none⟩ = some (.int .i64 r.nn) := R1.row.cell 24
               have c25 : u1.cell? ⟨g, 25, none⟩ = some lv := R1.row.cell 25
               have f23 := R1.row.frozen 23
               have f24 := R1.row.frozen 24
               have f25 := R1.row.frozen 25
               have H3 := Lib.hid (And.intro (o1.wider hBr.size (Nat.le_refl _)) (And.intro hb1 R1))
               clear o1 d1 R1))
        clear c23 c24 c25 f23 f24 f25
        go_wp2_with (fail)
        go_meet
        have hsn := H3.out.2.2.snew (H3.out.1.at_.wider H2.out.1.hB (Nat.le_refl _)) ar an
        have F2' := H2.out.2.1.trans ((Fr.of_below H3.out.2.1 (fun k => k = g ∨ k = ga)).mono H2.out.2.1.size (fun _ _ h => h))
        have F3' := F2'.trans (hsn.2.mono F2'.size (S' := fun k => k = g ∨ k = ga) (fun _ _ h => .inl h))
        refine ⟨A1, c1, rfl, by rw [HA.out]; exact hsn.1, F3', ?_, ?_⟩
        · rw [HA.out]
          exact (H3.out.1.fr hsn.2 (Nat.le_refl _) (fun k q1 _ he => by omega)).wider H2.out.2.1.size hsn.2.size
        · exact (hsn.2.cell (p := ⟨4, 0, none⟩) (by have := World.block_lt_of_cell? w2 _ H2.out.2.2.1; have := H3.out.2.1.size; simp only at *; omega) (fun e => HK.out.2.2.2.2.2.1.1 e)).trans ((H3.out.2.1.cell (p := ⟨4, 0, none⟩) (World.block_lt_of_cell? w2 _ H2.out.2.2.1)).trans H2.out.2.2.1)
      case rest =>
        obtain ⟨A1, c1, rfl, R2', F2, o1, h42⟩ := hcut
        have hled : (Value.slice A1 nl c1 = lv ∧ (r.newer ar an l).led = r.led) ∨ OwnLed wc w.heap.size wc.heap.size (.slice A1 nl c1) (r.newer ar an l).led := .inr o1
        clear o1
        have k119 := most_any wc B g ga n (upd f j true) (r.newer ar an l) pv (.slice A1 nl c1) R2'
        by_cases hm : half n ≤ (cnt n (upd f j true) : Nat)
        · rw [decide_eq_true hm] at k119
          have k120 : ∀ w3, Below wc.heap.size wc w3 → Calls Tryd.prog 120 #[.pointer (some ⟨g, 0, none⟩)] w3 (TellPost B g ga n (r.newer ar an l) pv (.slice A1 nl c1) w3) := fun w3 b =>
            tell_any w3 B g ga n _ _ pv _ (R2'.below b (Nat.le_refl _)) hn a4 ((b.cell (p := ⟨4, 0, none⟩) (World.block_lt_of_cell? wc _ h42)).trans h42)
          have hbw : B ≤ wc.heap.size := R2'.hB
          have hret : ∀ w3 w4 e, Below wc.heap.size wc w3 → TellPost B g ga n (r.newer ar an l) pv (.slice A1 nl c1) w3 e w4 → PromPost B g ga n f r pv lv j br bn ar an l w (.returned (.bool true)) w4 := fun w3 w4 e b ht =>
            PromPost.tells H1.out.2.2.2.2.2.1 H1.out.2.2.2.2.2.2.1 hj H1.out.2.2.2.2.2.2.2.1 HG.out.1 HG.out.2 F2 hled b hm ht
          have HT := Lib.hid (And.intro k119 (And.intro k120 hret))
          clear k119 k120 hret hm R2' F2 hled h42
          go_wp2_with (first
            | (go_at_call 119; refine HT.out.1.mono ?_; rintro e w3 ⟨rfl, b3⟩; have H3 := Lib.hid b3; clear b3)
            | (go_at_call 120; refine (HT.out.2.1 w3 H3.out).mono ?_; rintro e w4 ht; obtain rfl := ht.1; have H4 := Lib.hid ht; clear ht)
            | fail)
          go_ret
          exact HT.out.2.2 w3 w4 _ H3.out H4.out
        · rw [decide_eq_false hm] at k119
          have hret : ∀ w3, Below wc.heap.size wc w3 → PromPost B g ga n f r pv lv j br bn ar an l w (.returned (.bool true)) w3 := fun w3 b =>
            PromPost.last H1.out.2.2.2.2.2.1 H1.out.2.2.2.2.2.2.1 hj H1.out.2.2.2.2.2.2.2.1 R2' F2 hled b hm
          have HT := Lib.hid (And.intro k119 hret)
          clear k119 hret hm R2' F2 hled h42
          go_wp2_with (first
            | (go_at_call 119; refine HT.out.1.mono ?_; rintro e w3 ⟨rfl, b3⟩; have H3 := Lib.hid b3; clear b3)
            | fail)
          go_ret
          exact HT.out.2 w3 H3.out
end Go.Proofs.YtnlncfjibbdimaaDoor
