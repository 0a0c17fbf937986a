/-
  The walks of package ballot: Accept, Claim, Promised, Accepted.
-/
import Derived.Test.YtnlncfjibbdimaaDoorBal2
namespace Go.Proofs.YtnlncfjibbdimaaDoor
open Go.RowKit
set_option linter.unusedSimpArgs false
set_option linter.unusedVariables false

set_option maxHeartbeats 400000 in
theorem accept_num (g : Nat) (r n : Int) (lv : Value) (a0 : Addr) (w : World) (h0 : w.cell? ⟨0, 0, none⟩ = some (errv a0)) (hl : lg r n = false) :
    Calls Tryd.prog 32 #[.pointer (some ⟨g, 0, none⟩), .agg #[.int .i64 r, .int .i64 n], lv] w fun e w' => e = .returned (errv a0) ∧ Below w.heap.size w w' := by
  have h00 := World.block_lt_of_cell? w _ h0
  simp only at h00
  go_enter Tryd.func32, Tryd.ntmps32
  go_wp2_with (fail)
  refine (promise_num g r n a0 _ (by rw [World.cell?_alloc_lt _ _ _ h00]; exact h0) hl).mono ?_
  rintro e w1 ⟨rfl, hb1⟩
  have hb : Below w.heap.size w w1 := ((Below.refl _ _).alloc (Nat.le_refl _) _).trans (hb1.mono (by simp))
  clear hb1
  go_wp2_with (fail)
  go_ret
  exact ⟨rfl, hb⟩

set_option maxHeartbeats 400000 in
theorem accept_bal (g : Nat) (s : Acc) (v : Value) (r n : Int) (lv : Value) (a3 : Addr) (w : World) (h3 : w.cell? ⟨3, 0, none⟩ = some (errv a3)) (hB : Blk w g 156 (s.cells v)) (hl : lg r n = true) (ha : ab s.pr s.pn r n = true) :
    Calls Tryd.prog 32 #[.pointer (some ⟨g, 0, none⟩), .agg #[.int .i64 r, .int .i64 n], lv] w fun e w' => e = .returned (errv a3) ∧ Below w.heap.size w w' := by
  have h00 := World.block_lt_of_cell? w _ h3
  simp only at h00
  go_enter Tryd.func32, Tryd.ntmps32
  go_wp2_with (fail)
  refine (promise_bal g s v r n a3 _ (by rw [World.cell?_alloc_lt _ _ _ h00]; exact h3) (hB.alloc _) hl ha).mono ?_
  rintro e w1 ⟨rfl, hb1⟩
  have hb : Below w.heap.size w w1 := ((Below.refl _ _).alloc (Nat.le_refl _) _).trans (hb1.mono (by simp))
  clear hb1
  go_wp2_with (fail)
  go_ret
  exact ⟨rfl, hb⟩

/-- What Accept leaves where it accepts. -/
def AccPost (g : Nat) (w : World) (s : Acc) (r n : Int) (l : List Cmd) (e : Ending) (w' : World) : Prop :=
  e = .returned .nilIface ∧ Fr w.heap.size (· = g) w w' ∧ ∃ v, Blk w' g 156 ((⟨s.node, r, n, r, n, l, s.claimed⟩ : Acc).cells v) ∧ OwnLed w' w.heap.size w'.heap.size v l

set_option maxHeartbeats 400000 in
theorem accept_ok (g lo hi : Nat) (s : Acc) (v : Value) (r n : Int) (lv : Value) (l : List Cmd) (w : World) (hB : Blk w g 156 (s.cells v)) (hL : LedAt w lo hi lv l) (hhi : hi ≤ w.heap.size) (hlo : g < lo ∨ hi ≤ g) (hl : lg r n = true) (ha : ab s.pr s.pn r n = false) :
    Calls Tryd.prog 32 #[.pointer (some ⟨g, 0, none⟩), .agg #[.int .i64 r, .int .i64 n], lv] w (AccPost g w s r n l) := by
  have hg := hB.lt
  obtain ⟨A, cap, rfl, _⟩ := hL.form
  go_enter Tryd.func32, Tryd.ntmps32
  go_wp2_with (fail)
  refine (promise_ok g s _ r n _ (hB.alloc _) hl ha).mono ?_
  rintro e w1 ⟨rfl, hf1, hB1⟩
  have hX1 : Blk w1 w.heap.size 23 #[.int .i64 r, .int .i64 n] := (Blk.new w 23 _).fr hf1 (by simp) (by omega)
  have hF : Fr w.heap.size (· = g) w w1 := ((Fr.refl _ _ _).alloc (Nat.le_refl _) _).trans (hf1.mono (by simp) (fun _ _ h => h))
  have hL1 := hL.fr hF hhi (fun k h1 h2 h3 => by omega)
  have cB := hB1.cell
  have fB := hB1.frozen
  have cX := hX1.cell
  simp only [Acc.cells] at cB
  have hs1 := hf1.size
  simp only [World.size_alloc] at hs1
  clear hf1
  have hne : ¬ g = w.heap.size := by omega
  go_wp2_with (fail)
  go_region_held3 (fun w' => w'.cell? ⟨w.heap.size, 0, none⟩ = some (.int .i64 r) ∧ w'.cell? ⟨w.heap.size, 1, none⟩ = some (.int .i64 n)) (go_keep)
    (first | (go_at_call 90; refine (copied_any _ lo hi _ l (hL1.fr (Fr.refl _ _ _).drew (Nat.le_refl _) (fun _ _ _ h => h)) (by simp; omega)).mono ?_; rintro e w2 ⟨v2, rfl, ho2, hb2⟩; have qB := fun i => (hb2.cell (p := ⟨g, i, none⟩) hB1.lt).trans (cB i); have qX := fun i => (hb2.cell (p := ⟨w.heap.size, i, none⟩) hX1.lt).trans (cX i); have rB := (hB1.drew.below hb2 hB1.lt).frozen; obtain ⟨A2, c2, hv2, _⟩ := OwnRow.form ho2.choose_spec.1; subst hv2))
  have hB2 : Blk w2 g 156 (({ s with pr := r, pn := n } : Acc).cells v) := hB1.drew.below hb2 hB1.lt
  have hF2 : Fr w.heap.size (· = g) w w2 := hF.drew.trans (Fr.of_below (hb2.mono (by simp; omega)) _)
  have hB3 := ((hB2.set_ 3 (.int .i64 r)).set_ 4 (.int .i64 n)).set_ 5 (.slice A2 l.length c2)
  have ho3 := ho2.fr ((((Fr.refl w2.heap.size (· = g) w2).setCell (p := ⟨g, 3, none⟩) (.inl rfl) (.int .i64 r)).setCell (p := ⟨g, 4, none⟩) (.inl rfl) (.int .i64 n)).setCell (p := ⟨g, 5, none⟩) (.inl rfl) (.slice A2 l.length c2)) (Nat.le_refl _) (fun k h1 h2 h3 => by simp at h1; omega)
  have hF3 := ((hF2.setCell (p := ⟨g, 3, none⟩) (.inl rfl) (.int .i64 r)).setCell (p := ⟨g, 4, none⟩) (.inl rfl) (.int .i64 n)).setCell (p := ⟨g, 5, none⟩) (.inl rfl) (.slice A2 l.length c2)
  go_wp2
  go_ret
  exact ⟨rfl, hF3, _, hB3, ho3.wider (by simp; omega) (by simp)⟩

/-! ### Claim -/

/-- The number above which Claim claims. -/
def Acc.top (s : Acc) (r : Int) : Int := if r ≤ 1099511627776 then max (max s.pr s.claimed) r else max s.pr s.claimed

set_option maxHeartbeats 400000 in
theorem promised_any (g : Nat) (s : Acc) (v : Value) (w : World) (hB : Blk w g 156 (s.cells v)) :
    Calls Tryd.prog 30 #[.pointer (some ⟨g, 0, none⟩)] w fun e w' => e = .returned (.agg #[.int .i64 s.pr, .int .i64 s.pn]) ∧ Below w.heap.size w w' := by
  have hg := hB.lt
  have cB := hB.cell
  simp only [Acc.cells] at cB
  go_enter Tryd.func30, Tryd.ntmps30
  go_wp2
  exact bodyPost_ret (v := .agg #[.int .i64 s.pr, .int .i64 s.pn]) (by simp [results, Tryd.results30, go_sem]) rfl ⟨rfl, (Below.refl _ _).alloc (Nat.le_refl _) _⟩

/-- What Accepted gives. -/
def AskPost (w : World) (s : Acc) (e : Ending) (w' : World) : Prop :=
  ∃ v, e = .returned (.tuple #[.agg #[.int .i64 s.ar, .int .i64 s.an], v]) ∧ Below w.heap.size w w' ∧ OwnLed w' w.heap.size w'.heap.size v s.led

set_option maxHeartbeats 400000 in
theorem accepted_any (g lo hi : Nat) (s : Acc) (v : Value) (w : World) (hB : Blk w g 156 (s.cells v)) (hL : LedAt w lo hi v s.led) (hhi : hi ≤ w.heap.size) :
    Calls Tryd.prog 34 #[.pointer (some ⟨g, 0, none⟩)] w (AskPost w s) := by
  have hg := hB.lt
  obtain ⟨A, cap, rfl, _⟩ := hL.form
  have cB := hB.cell
  simp only [Acc.cells] at cB
  have hX1 : Blk (w.alloc (.cells #[.int .i64 0, .int .i64 0] 23)) w.heap.size 23 #[.int .i64 0, .int .i64 0] := Blk.new w 23 _
  have hB1 := hB.alloc (.cells #[.int .i64 0, .int .i64 0] 23)
  have hL1 := hL.fr (Fr.of_below ((Below.refl w.heap.size w).alloc (Nat.le_refl _) (.cells #[.int .i64 0, .int .i64 0] 23)) (fun _ => False)) hhi (fun _ _ _ h => h)
  have cX := hX1.cell
  have hne : ¬ w.heap.size = g := by omega
  go_enter Tryd.func34, Tryd.ntmps34
  go_wp2_with (fail)
  go_region_held3 (fun w' => w'.cell? ⟨g, 3, none⟩ = some (.int .i64 s.ar) ∧ w'.cell? ⟨g, 4, none⟩ = some (.int .i64 s.an) ∧ w'.cell? ⟨g, 5, none⟩ = some (.slice A s.led.length cap)) (go_keep)
    (first | (go_at_call 90; refine (copied_any _ lo hi _ s.led (hL1.fr (Fr.refl _ _ _).drew (Nat.le_refl _) (fun _ _ _ h => h)) (by simp; omega)).mono ?_; rintro e w2 ⟨v2, rfl, ho2, hb2⟩; have qB := fun i => ((hb2.cell (p := ⟨g, i, none⟩) hB1.lt).trans (World.cell?_alloc_lt _ _ _ hg)).trans (cB i); have qX := fun i => (hb2.cell (p := ⟨w.heap.size, i, none⟩) hX1.lt).trans (cX i); have rX := (hX1.drew.below hb2 hX1.lt).frozen; obtain ⟨A2, c2, hv2, _⟩ := OwnRow.form ho2.choose_spec.1; subst hv2))
  have ho3 := ho2.fr (((Fr.refl w2.heap.size (fun k => k = w.heap.size) w2).setCell (p := ⟨w.heap.size, 0, none⟩) (.inl rfl) (.int .i64 s.ar)).setCell (p := ⟨w.heap.size, 1, none⟩) (.inl rfl) (.int .i64 s.an)) (Nat.le_refl _) (fun k h1 h2 h3 => by simp at h1; omega)
  have hb3 : Below w.heap.size w w2 := ((Below.refl w.heap.size w).alloc (Nat.le_refl _) (.cells #[.int .i64 0, .int .i64 0] 23)).drew.trans (hb2.mono (by simp))
  go_wp2
  exact bodyPost_ret (v := .tuple #[.agg #[.int .i64 s.ar, .int .i64 s.an], .slice A2 s.led.length c2]) (by simp [results, Tryd.results34, go_sem, qX]) rfl
    ⟨_, rfl, (hb3.setCell (p := ⟨w.heap.size, 0, none⟩) (by simp) _).setCell (p := ⟨w.heap.size, 1, none⟩) (by simp) _, ho3.wider (by simp) (by simp)⟩

/-- What Claim leaves: the top t is what the run comes to. -/
def ClaimPost (g : Nat) (w : World) (s : Acc) (t : Int) (v : Value) (e : Ending) (w' : World) : Prop :=
  e = .returned (.tuple #[.agg #[.int .i64 (t + 1), .int .i64 s.node], .nilIface]) ∧ Fr w.heap.size (· = g) w w' ∧ Blk w' g 156 (({ s with claimed := t + 1 } : Acc).cells v)

theorem ClaimPost.of {g : Nat} {w W : World} {s : Acc} {t x : Int} {v : Value} {e : Ending} (hx : x = t) (he : e = .returned (.tuple #[.agg #[.int .i64 (x + 1), .int .i64 s.node], .nilIface])) (hF : Fr w.heap.size (· = g) w W)
    (hB : Blk W g 156 (({ s with claimed := x + 1 } : Acc).cells v)) : ClaimPost g w s t v e W := by subst hx; exact ⟨he, hF, hB⟩

/-- The world ahead of Claim's return. -/
def ClaimMid (g : Nat) (w : World) (s : Acc) (x : Int) (v : Value) (W : World) : Prop :=
  Fr w.heap.size (· = g) w W ∧ Blk W g 156 (({ s with claimed := x + 1 } : Acc).cells v) ∧ Blk W (w.heap.size + 1) 23 #[.int .i64 0, .int .i64 0]
theorem ClaimMid.mk_ {g : Nat} {s : Acc} {v : Value} {w : World} (hB : Blk w g 156 (s.cells v)) (A : Array Value) (k : Nat) (x : Int) :
    ClaimMid g w s x v ((((w.alloc (.cells A 23)).alloc (.cells #[.int .i64 0, .int .i64 0] 23)).drewN k).setCell ⟨g, 6, none⟩ (.int .i64 (x + 1))) := by
  have hg := hB.lt
  refine ⟨?_, (((hB.alloc (.cells A 23)).alloc (.cells #[.int .i64 0, .int .i64 0] 23)).drewN k).set_ 6 (.int .i64 (x + 1)), ?_⟩
  · have h := ((Fr.refl w.heap.size (· = g) w).alloc (Nat.le_refl _) (.cells A 23)).alloc (by simp) (.cells #[.int .i64 0, .int .i64 0] 23)
    have h' : Fr w.heap.size (· = g) w (((w.alloc (.cells A 23)).alloc (.cells #[.int .i64 0, .int .i64 0] 23)).drewN k) := ⟨h.os, h.tape, h.output, h.size, h.block⟩
    exact h'.setCell (p := ⟨g, 6, none⟩) (.inl rfl) _
  · exact ((Blk.new1 w (.cells A 23) 23 _).drewN k).far (p := ⟨g, 6, none⟩) (by simp; omega) _

set_option maxHeartbeats 400000 in
theorem claim_ok (g : Nat) (s : Acc) (v : Value) (r n : Int) (w : World) (hB : Blk w g 156 (s.cells v)) (hp : 0 ≤ s.pr) (hc : 0 ≤ s.claimed) (ht : s.top r < 1099511627776) :
    Calls Tryd.prog 33 #[.pointer (some ⟨g, 0, none⟩), .agg #[.int .i64 r, .int .i64 n]] w (ClaimPost g w s (s.top r) v) := by
  have hg := hB.lt
  have cB := hB.cell
  have fB := hB.frozen
  simp only [Acc.cells] at cB
  have hne : ¬ w.heap.size = g := by omega
  have hne' : ¬ w.heap.size + 1 = g := by omega
  obtain ⟨t, hT⟩ : ∃ t, t = s.top r := ⟨_, rfl⟩
  rw [← hT]
  unfold Acc.top at ht hT
  have HT := Lib.hid hT
  clear hT
  by_cases hr : r ≤ 1099511627776
  · rw [if_pos hr] at ht
    have h1 : s.pr < 1099511627776 := by omega
    have h2 : s.claimed < 1099511627776 := by omega
    have h3 : r < 1099511627776 := by omega
    clear ht
    go_enter Tryd.func33, Tryd.ntmps33
    go_wp2_with (fail)
    go_quiet (fail)
    go_wp2
    all_goals
      refine wp_letter (ClaimMid g w s _ v) (ClaimMid.mk_ hB _ _ _) ?_
      rintro W ⟨hF, hB2, hX⟩
      have cB2 := hB2.cell
      have cX := hX.cell
      have fX := hX.frozen
      simp only [Acc.cells] at cB2
      clear cB fB
      go_region
      go_wp2
      refine bodyPost_ret (v := .tuple #[.agg #[.int .i64 _, .int .i64 s.node], .nilIface]) (by simp [results, Tryd.results33, go_sem, cX]) rfl
        (ClaimPost.of ?_ rfl ((hF.drew.setCell (p := ⟨w.heap.size + 1, 0, none⟩) (.inr (by simp)) _).setCell (p := ⟨w.heap.size + 1, 1, none⟩) (.inr (by simp)) _) ((hB2.drew.far (p := ⟨w.heap.size + 1, 0, none⟩) (by simp; omega) _).far (p := ⟨w.heap.size + 1, 1, none⟩) (by simp; omega) _))
      have := HT.out
      rw [if_pos hr] at this
      omega
  · rw [if_neg hr] at ht
    have h1 : s.pr < 1099511627776 := by omega
    have h2 : s.claimed < 1099511627776 := by omega
    clear ht
    go_enter Tryd.func33, Tryd.ntmps33
    go_wp2_with (fail)
    go_quiet (fail)
    go_wp2
    all_goals
      refine wp_letter (ClaimMid g w s _ v) (ClaimMid.mk_ hB _ _ _) ?_
      rintro W ⟨hF, hB2, hX⟩
      have cB2 := hB2.cell
      have cX := hX.cell
      have fX := hX.frozen
      simp only [Acc.cells] at cB2
      clear cB fB
      go_region
      go_wp2
      refine bodyPost_ret (v := .tuple #[.agg #[.int .i64 _, .int .i64 s.node], .nilIface]) (by simp [results, Tryd.results33, go_sem, cX]) rfl
        (ClaimPost.of ?_ rfl ((hF.drew.setCell (p := ⟨w.heap.size + 1, 0, none⟩) (.inr (by simp)) _).setCell (p := ⟨w.heap.size + 1, 1, none⟩) (.inr (by simp)) _) ((hB2.drew.far (p := ⟨w.heap.size + 1, 0, none⟩) (by simp; omega) _).far (p := ⟨w.heap.size + 1, 1, none⟩) (by simp; omega) _))
      have := HT.out
      rw [if_neg (by omega)] at this
      omega

def FullMid (w : World) (a4 : Addr) (W : World) : Prop := Below w.heap.size w W ∧ W.cell? ⟨4, 0, none⟩ = some (errv a4) ∧ Blk W (w.heap.size + 1) 23 #[.int .i64 0, .int .i64 0]
theorem FullMid.mk_ {w : World} {a4 : Addr} (h4 : w.cell? ⟨4, 0, none⟩ = some (errv a4)) (A : Array Value) (k : Nat) :
    FullMid w a4 (((w.alloc (.cells A 23)).alloc (.cells #[.int .i64 0, .int .i64 0] 23)).drewN k) := by
  have h := ((Below.refl w.heap.size w).alloc (Nat.le_refl _) (.cells A 23)).alloc (by simp) (.cells #[.int .i64 0, .int .i64 0] 23)
  have h' : Below w.heap.size w (((w.alloc (.cells A 23)).alloc (.cells #[.int .i64 0, .int .i64 0] 23)).drewN k) := ⟨h.os, h.tape, h.output, h.size, h.block⟩
  exact ⟨h', (h'.cell (World.block_lt_of_cell? w _ h4)).trans h4, (Blk.new1 w (.cells A 23) 23 _).drewN k⟩

set_option maxHeartbeats 400000 in
theorem claim_full (g : Nat) (s : Acc) (v : Value) (r n : Int) (a4 : Addr) (w : World) (h4 : w.cell? ⟨4, 0, none⟩ = some (errv a4)) (hB : Blk w g 156 (s.cells v)) (ht : 1099511627776 ≤ s.top r) :
    Calls Tryd.prog 33 #[.pointer (some ⟨g, 0, none⟩), .agg #[.int .i64 r, .int .i64 n]] w fun e w' =>
      e = .returned (.tuple #[.agg #[.int .i64 0, .int .i64 0], errv a4]) ∧ Below w.heap.size w w' := by
  have h00 := World.block_lt_of_cell? w _ h4
  simp only at h00
  have hg := hB.lt
  have cB := hB.cell
  have fB := hB.frozen
  simp only [Acc.cells] at cB
  have hne : ¬ w.heap.size = g := by omega
  have hne' : ¬ w.heap.size + 1 = g := by omega
  have hb : Below w.heap.size w ((w.alloc (.cells #[.int .i64 r, .int .i64 n] 23)).alloc (.cells #[.int .i64 0, .int .i64 0] 23)) := ((Below.refl _ _).alloc (Nat.le_refl _) _).alloc (by simp) _
  unfold Acc.top at ht
  by_cases hr : r ≤ 1099511627776
  · rw [if_pos hr] at ht
    have ht' : ¬ (s.pr < 1099511627776 ∧ s.claimed < 1099511627776 ∧ r < 1099511627776) := by omega
    clear ht
    go_enter Tryd.func33, Tryd.ntmps33
    go_wp2_with (fail)
    go_quiet (fail)
    go_wp2
    all_goals
      refine wp_letter (FullMid w a4) (FullMid.mk_ h4 _ _) ?_
      rintro W ⟨hb, h4', hX⟩
      have cX := hX.cell
      have fX := hX.frozen
      clear cB fB
      go_region
      go_wp2
      exact bodyPost_ret (v := .tuple #[.agg #[.int .i64 0, .int .i64 0], errv a4]) (by simp [results, Tryd.results33, go_sem, cX]) rfl
        ⟨rfl, (hb.drew.setCell (p := ⟨w.heap.size + 1, 0, none⟩) (by simp) _).setCell (p := ⟨w.heap.size + 1, 1, none⟩) (by simp) _⟩
  · rw [if_neg (by omega)] at ht
    have ht' : ¬ (s.pr < 1099511627776 ∧ s.claimed < 1099511627776) := by omega
    clear ht
    go_enter Tryd.func33, Tryd.ntmps33
    go_wp2_with (fail)
    go_quiet (fail)
    go_wp2
    all_goals
      refine wp_letter (FullMid w a4) (FullMid.mk_ h4 _ _) ?_
      rintro W ⟨hb, h4', hX⟩
      have cX := hX.cell
      have fX := hX.frozen
      clear cB fB
      go_region
      go_wp2
      exact bodyPost_ret (v := .tuple #[.agg #[.int .i64 0, .int .i64 0], errv a4]) (by simp [results, Tryd.results33, go_sem, cX]) rfl
        ⟨rfl, (hb.drew.setCell (p := ⟨w.heap.size + 1, 0, none⟩) (by simp) _).setCell (p := ⟨w.heap.size + 1, 1, none⟩) (by simp) _⟩

end Go.Proofs.YtnlncfjibbdimaaDoor
