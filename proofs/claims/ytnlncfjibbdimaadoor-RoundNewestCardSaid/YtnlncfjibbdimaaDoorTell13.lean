/-
  A round's tell: it goes on to the acceptings.
-/
import Derived.Test.YtnlncfjibbdimaaDoorBegin13
import Derived.Test.YtnlncfjibbdimaaDoorPut13
namespace Go.Proofs.YtnlncfjibbdimaaDoor
open Go.RowKit
set_option linter.unusedSimpArgs false
set_option linter.unusedVariables false

/-- A round that tells. -/
def Rnd.tell (r : Rnd) : Rnd :=
  if r.reads = true then { r with stage := 2 } else match putL r.led r.cmd with
    | some l => { r with stage := 2, led := l }
    | none => { r with stage := 4 }
/-- A promise's ledger, if it is newer. -/
def Rnd.newer (r : Rnd) (ar an : Int) (l : List Cmd) : Rnd := if ab ar an r.nr r.nn = true then { r with nr := ar, nn := an, led := l } else r
/-- Behind a promise that counts. -/
def Rnd.promised (r : Rnd) (n : Nat) (f : Nat → Bool) (j : Nat) (ar an : Int) (l : List Cmd) : Rnd := if half n ≤ (cnt n (upd f j true) : Nat) then (r.newer ar an l).tell else r.newer ar an l
/-- Who has answered behind a promise that counts. -/
def promF (n : Nat) (f : Nat → Bool) (j : Nat) : Nat → Bool := if half n ≤ (cnt n (upd f j true) : Nat) then fun _ => false else upd f j true

/-- What tell comes to. -/
def TellPost (B g ga n : Nat) (r : Rnd) (pv lv : Value) (w : World) (e : Ending) (w' : World) : Prop :=
  e = .returned (.tuple #[]) ∧ ∃ lv', RndAt w' B g ga n (fun _ => false) r.tell pv lv' ∧ Fr w.heap.size (fun k => k = g ∨ k = ga) w w' ∧ ((lv' = lv ∧ r.tell.led = r.led) ∨ OwnLed w' w.heap.size w'.heap.size lv' r.tell.led)

theorem RndAt.ne4 {w : World} {B g ga n : Nat} {f : Nat → Bool} {r : Rnd} {pv lv : Value} (h : RndAt w B g ga n f r pv lv) (hn : 0 < n) {q : Nat} {a : Addr} (hq : w.cell? ⟨q, 0, none⟩ = some (errv a)) : q ≠ g ∧ q ≠ ga := by
  refine ⟨fun e => ?_, fun e => ?_⟩
  · have : w.cell? ⟨g, 0, none⟩ = some (.slice (some ⟨ga, 0, none⟩) n n) := h.row.cell 0
    rw [← e, hq] at this
    cases this
  · have := h.ans.cell 0
    rw [bls_get hn, ← e, hq] at this
    cases this
theorem RndAt.sled2 {w : World} {B g ga n : Nat} {f : Nat → Bool} {r : Rnd} {pv lv lv' : Value} {l : List Cmd} (h : RndAt w B g ga n f r pv lv) (hl : LedAt w B w.heap.size lv' l) : RndAt (w.setCell ⟨g, 25, none⟩ lv') B g ga n f { r with led := l } pv lv' ∧ Fr w.heap.size (fun k => k = g) w (w.setCell ⟨g, 25, none⟩ lv') := by
  have hF : Fr w.heap.size (fun k => k = g) w (w.setCell ⟨g, 25, none⟩ lv') := (Fr.refl w.heap.size (fun k => k = g) w).setCell (p := ⟨g, 25, none⟩) (.inl rfl) _
  have h1 := h.hga
  have h2 := h.hg
  have h3 := h.hB
  refine ⟨⟨h.hg, h.hga, h.ne, Nat.le_trans h.hB hF.size, h.row.set_ 25 _, h.ans.far (p := ⟨g, 25, none⟩) h.ne.symm _, ?_, (hl.fr hF (Nat.le_refl _) (fun k q1 _ he => by omega)).wider (Nat.le_refl _) hF.size, h.sz⟩, hF⟩
  obtain ⟨p0, q1, q2, q3⟩ := h.parts
  exact ⟨p0, q1, q2, q3.fr hF (by omega) (fun k _ hk he => by omega)⟩
theorem RndAt.range {w : World} {B g ga n : Nat} {f : Nat → Bool} {r : Rnd} {pv lv : Value} (h : RndAt w B g ga n f r pv lv) : w.rangeAt g 1 (r.cmd.cells pv) := fun j v hv => by
  have hj : j < 18 := by have := (List.getElem?_eq_some_iff.1 hv).1; rwa [Cmd.cells_length] at this
  have := h.row.cell (1 + j)
  rw [this]
  simp only [Rnd.cells, List.getElem?_toArray]
  have e : 1 + j = j + 1 := by omega
  rw [e, List.getElem?_cons_succ, ← hv]
  simp only [Cmd.cells]
  rcases j with _ | _ | _ | _ | _ | _ | _ | _ | _ | _ | _ | _ | _ | _ | _ | _ | _ | _ | j <;> first | rfl | omega

set_option maxRecDepth 100000 in
set_option maxHeartbeats 1600000 in
theorem tell_reads (w : World) (B g ga n : Nat) (f : Nat → Bool) (r : Rnd) (pv lv : Value) (h : RndAt w B g ga n f r pv lv) (hn : 0 < n) (hr : r.reads = true) :
    Calls Tryd.prog 120 #[.pointer (some ⟨g, 0, none⟩)] w (TellPost B g ga n r pv lv w) := by
  have c22 : w.cell? ⟨g, 22, none⟩ = some (.int .i64 r.stage) := h.row.cell 22
  have f22 := h.row.frozen 22
  have hst := h.sst 2
  have c0 : (w.setCell ⟨g, 22, none⟩ (.int .i64 2)).cell? ⟨g, 0, none⟩ = some (.slice (some ⟨ga, 0, none⟩) n n) := hst.1.row.cell 0
  obtain ⟨W2, hcl, R2, F2⟩ := clear_bools hst.1 hn
  have d19 : W2.cell? ⟨g, 19, none⟩ = some (.bool r.reads) := R2.row.cell 19
  have F02 : Fr w.heap.size (fun k => k = g ∨ k = ga) w W2 := (hst.2.mono (Nat.le_refl _) (fun _ _ h => .inl h)).trans (F2.mono hst.2.size (fun _ _ h => .inr h))
  have hret : TellPost B g ga n r pv lv w (.returned (.tuple #[])) W2 := by
    refine ⟨rfl, lv, ?_, F02, .inl ⟨rfl, by unfold Rnd.tell; rw [if_pos hr]⟩⟩
    unfold Rnd.tell
    rw [if_pos hr]
    exact R2
  rw [hr] at d19
  clear h hst R2 F2 F02 hr
  go_enter Tryd.func120, Tryd.ntmps120
  go_wp2_with (fail)
  go_end0
  exact hret

set_option maxRecDepth 100000 in
set_option maxHeartbeats 1600000 in
theorem tell_some (w : World) (B g ga n : Nat) (f : Nat → Bool) (r : Rnd) (pv lv : Value) (h : RndAt w B g ga n f r pv lv) (hn : 0 < n) (hr : r.reads = false) (a4 : Addr) (h4 : w.cell? ⟨4, 0, none⟩ = some (errv a4)) (l : List Cmd) (hl : putL r.led r.cmd = some l) :
    Calls Tryd.prog 120 #[.pointer (some ⟨g, 0, none⟩)] w (TellPost B g ga n r pv lv w) := by
  have c22 : w.cell? ⟨g, 22, none⟩ = some (.int .i64 r.stage) := h.row.cell 22
  have f22 := h.row.frozen 22
  have hst := h.sst 2
  have c0 : (w.setCell ⟨g, 22, none⟩ (.int .i64 2)).cell? ⟨g, 0, none⟩ = some (.slice (some ⟨ga, 0, none⟩) n n) := hst.1.row.cell 0
  obtain ⟨W2, hcl, R2, F2⟩ := clear_bools hst.1 hn
  have d19 : W2.cell? ⟨g, 19, none⟩ = some (.bool r.reads) := R2.row.cell 19
  have F02 : Fr w.heap.size (fun k => k = g ∨ k = ga) w W2 := (hst.2.mono (Nat.le_refl _) (fun _ _ h => .inl h)).trans (F2.mono hst.2.size (fun _ _ h => .inr h))
  obtain ⟨A, cap, hlv, hl1, hl2, hl3⟩ := h.led.form
  obtain ⟨nl, hnl⟩ : ∃ nl, nl = r.led.length := ⟨_, rfl⟩
  rw [← hnl] at hlv
  subst hlv
  have hne := h.ne4 hn h4
  have h4l := World.block_lt_of_cell? w _ h4
  have hX : ∀ w', Below W2.heap.size W2 w' → (w'.cell? ⟨g, 25, none⟩ = some (.slice A nl cap) ∧ w'.rangeAt g 1 (r.cmd.cells pv)) := fun w' b => by
    have h' := R2.below b (Nat.le_refl _)
    exact ⟨h'.row.cell 25, h'.range⟩
  have k153 : ∀ w', Below W2.heap.size W2 w' → Calls Tryd.prog 153 #[.slice A nl cap, .agg (r.cmd.cells pv).toArray] w' (PutPost r.led r.cmd a4 w') := fun w' b => by
    have h' := R2.below b (Nat.le_refl _)
    obtain ⟨p0, q1, q2, q3⟩ := h'.parts
    exact put_any w' B w'.heap.size _ r.led h'.led (Nat.le_refl _) r.cmd pv a4 ((b.cell (p := ⟨4, 0, none⟩) (Nat.lt_of_lt_of_le h4l F02.size)).trans ((F02.cell (p := ⟨4, 0, none⟩) h4l (fun e => e.elim hne.1 hne.2)).trans h4)) (q3.wider (Nat.le_refl _) (by have := h'.hg; have := h'.hB; omega))
  have k153' : ∀ w', Below W2.heap.size W2 w' → Calls Tryd.prog 153 #[.slice A nl cap, .agg (r.cmd.cells pv).toArray] w' (fun e w1 => ∃ A1 k1 c1 z1, e = .returned (.tuple #[.slice A1 k1 c1, .int .i64 z1, .nilIface]) ∧ Below w'.heap.size w' w1 ∧ OwnLed w1 w'.heap.size w1.heap.size (.slice A1 k1 c1) l) := fun w' b => by
    refine (k153 w' b).mono ?_
    rintro e w1 ⟨v1, q1, rfl, b1, ⟨l', hl', hq, ho⟩ | ⟨hl', hq, hv⟩⟩
    · rw [hl] at hl'
      injection hl' with hl'
      subst hl' hq
      obtain ⟨A1, c1, rfl, _⟩ := ho.at_.form
      exact ⟨A1, _, c1, _, rfl, b1, ho⟩
    · rw [hl] at hl'; cases hl'
  have htl : r.tell = { r with stage := 2, led := l } := by unfold Rnd.tell; rw [hr, hl]; rfl
  have HX := Lib.hid (And.intro hX (And.intro k153' (And.intro R2 (And.intro F02 htl))))
  rw [hr] at d19
  clear h hst R2 F2 F02 hr hX k153 k153' h4l hne hl1 hl2 hl3 hnl htl hl h4
  go_enter Tryd.func120, Tryd.ntmps120
  go_upto_region 3 with (fail)
  clear c22 f22 c0 hcl d19
  have hBr : Below W2.heap.size W2 W2.drew := (Below.refl W2.heap.size W2).drew
  go_cut [2, 4] (fun v2 v4 wx => ∃ A1 k1 c1, v2 = .slice A1 k1 c1 ∧ v4 = .nilIface ∧ OwnLed wx W2.heap.size wx.heap.size (.slice A1 k1 c1) l ∧ Below W2.heap.size W2 wx)
  case first =>
    refine wp_region_held_drew (S := fun w' => Below W2.heap.size W2 w') (by kernel_rfl) hBr (fun _ => ?_)
    refine wpAnyH_take (i := 0) (v := .pointer (some ⟨g, 0, none⟩)) rfl (by kernel_rfl) (by kernel_rfl) (by kernel_rfl) (fun _ _ _ h => h) (Or.inl ⟨by kernel_rfl, fun w' hSw => ?_⟩) hBr ?_
    · go_simp
    try simp only [List.getElem_toArray, List.getElem_cons_succ, List.getElem_cons_zero, Act.put, List.setIfInBounds_toArray, List.set_cons_zero, List.set_cons_succ]
    refine wpAnyH_take (i := 1) (v := .pointer (some ⟨g, 0, none⟩)) rfl (by kernel_rfl) (by kernel_rfl) (by kernel_rfl) (fun _ _ _ h => h) (Or.inl ⟨by kernel_rfl, fun w' hSw => ?_⟩) hBr ?_
    · go_simp
    try simp only [List.getElem_toArray, List.getElem_cons_succ, List.getElem_cons_zero, Act.put, List.setIfInBounds_toArray, List.set_cons_zero, List.set_cons_succ]
    refine wpAnyH_take (i := 2) (v := .pointer (some ⟨g, 25, none⟩)) rfl (by kernel_rfl) (by kernel_rfl) (by kernel_rfl) (fun _ _ _ h => h) (Or.inl ⟨by kernel_rfl, fun w' hSw => ?_⟩) hBr ?_
    · go_simp
    try simp only [List.getElem_toArray, List.getElem_cons_succ, List.getElem_cons_zero, Act.put, List.setIfInBounds_toArray, List.set_cons_zero, List.set_cons_succ]
    refine wpAnyH_take (i := 3) (v := .slice A nl cap) rfl (by kernel_rfl) (by kernel_rfl) (by kernel_rfl) (fun _ _ _ h => h) (Or.inl ⟨by kernel_rfl, fun w' hSw => ?_⟩) hBr ?_
    · (have hcv := (HX.out.1 w' hSw).1; go_simp)
    try simp only [List.getElem_toArray, List.getElem_cons_succ, List.getElem_cons_zero, Act.put, List.setIfInBounds_toArray, List.set_cons_zero, List.set_cons_succ]
    refine wpAnyH_take (i := 4) (v := .pointer (some ⟨g, 0, none⟩)) rfl (by kernel_rfl) (by kernel_rfl) (by kernel_rfl) (fun _ _ _ h => h) (Or.inl ⟨by kernel_rfl, fun w' hSw => ?_⟩) hBr ?_
    · go_simp
    try simp only [List.getElem_toArray, List.getElem_cons_succ, List.getElem_cons_zero, Act.put, List.setIfInBounds_toArray, List.set_cons_zero, List.set_cons_succ]
    refine wpAnyH_take (i := 5) (v := .pointer (some ⟨g, 0, none⟩)) rfl (by kernel_rfl) (by kernel_rfl) (by kernel_rfl) (fun _ _ _ h => h) (Or.inl ⟨by kernel_rfl, fun w' hSw => ?_⟩) hBr ?_
    · go_simp
    try simp only [List.getElem_toArray, List.getElem_cons_succ, List.getElem_cons_zero, Act.put, List.setIfInBounds_toArray, List.set_cons_zero, List.set_cons_succ]
    refine wpAnyH_take (i := 6) (v := .pointer (some ⟨g, 1, none⟩)) rfl (by kernel_rfl) (by kernel_rfl) (by kernel_rfl) (fun _ _ _ h => h) (Or.inl ⟨by kernel_rfl, fun w' hSw => ?_⟩) hBr ?_
    · go_simp
    try simp only [List.getElem_toArray, List.getElem_cons_succ, List.getElem_cons_zero, Act.put, List.setIfInBounds_toArray, List.set_cons_zero, List.set_cons_succ]
    refine wpAnyH_take (i := 7) (v := .agg (r.cmd.cells pv).toArray) rfl (by kernel_rfl) (by kernel_rfl) (by kernel_rfl) (fun _ _ _ h => h) ?_ hBr ?_
    · refine yieldsIf_load_mid ?_ 81 (.tmp 23) ?_ g 1 ?_ (r.cmd.cells pv) _ (fun w' hw => (HX.out.1 w' hw).2) Tryd.underlying81 ?_ cmd_info
      · kernel_rfl
      · rfl
      · kernel_rfl
      · rfl
    try simp only [List.getElem_toArray, List.getElem_cons_succ, List.getElem_cons_zero, Act.put, List.setIfInBounds_toArray, List.set_cons_zero, List.set_cons_succ]
    refine wpAnyH_ready (rs := [8]) (by kernel_rfl) (by simp) ?_
    refine AllReadyH.cons rfl (fun K hK => ?_) ?_
    · go_simp
      refine (HX.out.2.1 _ hBr).mono ?_
      rintro e u1 ⟨A1, k1, c1, z1, rfl, d1, o1⟩
      have hb1 := hBr.trans (d1.mono hBr.size)
      have H1 := Lib.hid (o1.wider hBr.size (Nat.le_refl _))
      clear o1
      refine Shut.out hK _ _ hb1 (fun _ => ?_)
      clear hK K
      refine wpAnyH_take (i := 9) (v := .tuple #[.slice A1 k1 c1, .int .i64 z1, .nilIface]) rfl (by kernel_rfl) (by kernel_rfl) (by kernel_rfl) (fun _ _ _ h => h) (Or.inl ⟨by kernel_rfl, fun w' hSw => ?_⟩) hb1 ?_
      · go_simp
      try simp only [List.getElem_toArray, List.getElem_cons_succ, List.getElem_cons_zero, Act.put, List.setIfInBounds_toArray, List.set_cons_zero, List.set_cons_succ]
      refine wpAnyH_take (i := 10) (v := .slice A1 k1 c1) rfl (by kernel_rfl) (by kernel_rfl) (by kernel_rfl) (fun _ _ _ h => h) (Or.inl ⟨by kernel_rfl, fun w' hSw => ?_⟩) hb1 ?_
      · go_simp
      try simp only [List.getElem_toArray, List.getElem_cons_succ, List.getElem_cons_zero, Act.put, List.setIfInBounds_toArray, List.set_cons_zero, List.set_cons_succ]
      refine wpAnyH_take (i := 11) (v := .int .i64 z1) rfl (by kernel_rfl) (by kernel_rfl) (by kernel_rfl) (fun _ _ _ h => h) (Or.inl ⟨by kernel_rfl, fun w' hSw => ?_⟩) hb1 ?_
      · go_simp
      try simp only [List.getElem_toArray, List.getElem_cons_succ, List.getElem_cons_zero, Act.put, List.setIfInBounds_toArray, List.set_cons_zero, List.set_cons_succ]
      refine wpAnyH_take (i := 12) (v := .nilIface) rfl (by kernel_rfl) (by kernel_rfl) (by kernel_rfl) (fun _ _ _ h => h) (Or.inl ⟨by kernel_rfl, fun w' hSw => ?_⟩) hb1 ?_
      · go_simp
      try simp only [List.getElem_toArray, List.getElem_cons_succ, List.getElem_cons_zero, Act.put, List.setIfInBounds_toArray, List.set_cons_zero, List.set_cons_succ]
      refine wpAnyH_take (i := 13) (v := .slice A1 k1 c1) rfl (by kernel_rfl) (by kernel_rfl) (by kernel_rfl) (fun _ _ _ h => h) (Or.inl ⟨by kernel_rfl, fun w' hSw => ?_⟩) hb1 ?_
      · go_simp
      try simp only [List.getElem_toArray, List.getElem_cons_succ, List.getElem_cons_zero, Act.put, List.setIfInBounds_toArray, List.set_cons_zero, List.set_cons_succ]
      refine wpAnyH_take (i := 14) (v := .int .i64 z1) rfl (by kernel_rfl) (by kernel_rfl) (by kernel_rfl) (fun _ _ _ h => h) (Or.inl ⟨by kernel_rfl, fun w' hSw => ?_⟩) hb1 ?_
      · go_simp
      try simp only [List.getElem_toArray, List.getElem_cons_succ, List.getElem_cons_zero, Act.put, List.setIfInBounds_toArray, List.set_cons_zero, List.set_cons_succ]
      refine wpAnyH_take (i := 15) (v := .nilIface) rfl (by kernel_rfl) (by kernel_rfl) (by kernel_rfl) (fun _ _ _ h => h) (Or.inl ⟨by kernel_rfl, fun w' hSw => ?_⟩) hb1 ?_
      · go_simp
      try simp only [List.getElem_toArray, List.getElem_cons_succ, List.getElem_cons_zero, Act.put, List.setIfInBounds_toArray, List.set_cons_zero, List.set_cons_succ]
      refine wpAnyH_done (by kernel_rfl) ?_ _
      go_wp2_with (fail)
      go_meet
      exact ⟨_, _, _, rfl, rfl, H1.out, hb1⟩
    exact AllReadyH.nil
  case rest =>
    obtain ⟨A1, k1, c1, rfl, rfl, o1, b1⟩ := hcut
    have R3 := HX.out.2.2.1.below b1 (Nat.le_refl _)
    have c25 : wc.cell? ⟨g, 25, none⟩ = some (.slice A nl cap) := R3.row.cell 25
    have f25 := R3.row.frozen 25
    have hs := R3.sled2 (o1.at_.wider HX.out.2.2.1.hB (Nat.le_refl _))
    have hF2 : Fr w.heap.size (fun k => k = g ∨ k = ga) W2 (wc.setCell ⟨g, 25, none⟩ (.slice A1 k1 c1)) :=
      (Fr.of_below (b1.mono HX.out.2.2.2.1.size) _).trans (hs.2.mono (Nat.le_trans HX.out.2.2.2.1.size b1.size) (fun _ _ h => .inl h))
    have hret : TellPost B g ga n r pv (.slice A nl cap) w (.returned (.tuple #[])) (wc.setCell ⟨g, 25, none⟩ (.slice A1 k1 c1)) := by
      refine ⟨rfl, .slice A1 k1 c1, by rw [HX.out.2.2.2.2]; exact hs.1, HX.out.2.2.2.1.trans hF2, .inr ?_⟩
      rw [HX.out.2.2.2.2]
      exact ((o1.fr hs.2 (Nat.le_refl _) (fun k q1 _ he => by have := R3.hg; have := R3.hB; have := HX.out.2.2.1.hB; have := HX.out.2.2.1.hg; omega)).wider HX.out.2.2.2.1.size hs.2.size)
    clear hs hF2 R3 o1 b1
    go_wp2_with (fail)
    go_end0
    exact hret

set_option maxRecDepth 100000 in
set_option maxHeartbeats 1600000 in
theorem tell_none (w : World) (B g ga n : Nat) (f : Nat → Bool) (r : Rnd) (pv lv : Value) (h : RndAt w B g ga n f r pv lv) (hn : 0 < n) (hr : r.reads = false) (a4 : Addr) (h4 : w.cell? ⟨4, 0, none⟩ = some (errv a4)) (hl : putL r.led r.cmd = none) :
    Calls Tryd.prog 120 #[.pointer (some ⟨g, 0, none⟩)] w (TellPost B g ga n r pv lv w) := by
  have c22 : w.cell? ⟨g, 22, none⟩ = some (.int .i64 r.stage) := h.row.cell 22
  have f22 := h.row.frozen 22
  have hst := h.sst 2
  have c0 : (w.setCell ⟨g, 22, none⟩ (.int .i64 2)).cell? ⟨g, 0, none⟩ = some (.slice (some ⟨ga, 0, none⟩) n n) := hst.1.row.cell 0
  obtain ⟨W2, hcl, R2, F2⟩ := clear_bools hst.1 hn
  have d19 : W2.cell? ⟨g, 19, none⟩ = some (.bool r.reads) := R2.row.cell 19
  have F02 : Fr w.heap.size (fun k => k = g ∨ k = ga) w W2 := (hst.2.mono (Nat.le_refl _) (fun _ _ h => .inl h)).trans (F2.mono hst.2.size (fun _ _ h => .inr h))
  obtain ⟨A, cap, hlv, hl1, hl2, hl3⟩ := h.led.form
  obtain ⟨nl, hnl⟩ : ∃ nl, nl = r.led.length := ⟨_, rfl⟩
  rw [← hnl] at hlv
  subst hlv
  have hne := h.ne4 hn h4
  have h4l := World.block_lt_of_cell? w _ h4
  have hX : ∀ w', Below W2.heap.size W2 w' → (w'.cell? ⟨g, 25, none⟩ = some (.slice A nl cap) ∧ w'.rangeAt g 1 (r.cmd.cells pv)) := fun w' b => by
    have h' := R2.below b (Nat.le_refl _)
    exact ⟨h'.row.cell 25, h'.range⟩
  have k153 : ∀ w', Below W2.heap.size W2 w' → Calls Tryd.prog 153 #[.slice A nl cap, .agg (r.cmd.cells pv).toArray] w' (PutPost r.led r.cmd a4 w') := fun w' b => by
    have h' := R2.below b (Nat.le_refl _)
    obtain ⟨p0, q1, q2, q3⟩ := h'.parts
    exact put_any w' B w'.heap.size _ r.led h'.led (Nat.le_refl _) r.cmd pv a4 ((b.cell (p := ⟨4, 0, none⟩) (Nat.lt_of_lt_of_le h4l F02.size)).trans ((F02.cell (p := ⟨4, 0, none⟩) h4l (fun e => e.elim hne.1 hne.2)).trans h4)) (q3.wider (Nat.le_refl _) (by have := h'.hg; have := h'.hB; omega))
  have k153' : ∀ w', Below W2.heap.size W2 w' → Calls Tryd.prog 153 #[.slice A nl cap, .agg (r.cmd.cells pv).toArray] w' (fun e w1 => e = .returned (.tuple #[.slice none 0 0, .int .i64 (putN13 r.led r.cmd), errv a4]) ∧ Below w'.heap.size w' w1) := fun w' b => by
    refine (k153 w' b).mono ?_
    rintro e w1 ⟨v1, q1, rfl, b1, ⟨l', hl', hq, ho⟩ | ⟨hl', hq, hv⟩⟩
    · rw [hl] at hl'; cases hl'
    · subst hq hv
      exact ⟨rfl, b1⟩
  obtain ⟨z1, hz1⟩ : ∃ z1, z1 = putN13 r.led r.cmd := ⟨_, rfl⟩
  rw [← hz1] at k153'
  have htl : r.tell = { r with stage := 4 } := by unfold Rnd.tell; rw [hr, hl]; rfl
  have HX := Lib.hid (And.intro hX (And.intro k153' (And.intro R2 (And.intro F02 htl))))
  rw [hr] at d19
  clear h hst R2 F2 F02 hr hX k153 k153' h4l hne hl1 hl2 hl3 hnl htl hl h4 hz1
  go_enter Tryd.func120, Tryd.ntmps120
  go_upto_region 3 with (fail)
  clear c22 f22 c0 hcl d19
  have hBr : Below W2.heap.size W2 W2.drew := (Below.refl W2.heap.size W2).drew
  go_cut [2, 4] (fun v2 v4 wx => v4 = errv a4 ∧ Below W2.heap.size W2 wx)
  case first =>
    refine wp_region_held_drew (S := fun w' => Below W2.heap.size W2 w') (by kernel_rfl) hBr (fun _ => ?_)
    refine wpAnyH_take (i := 0) (v := .pointer (some ⟨g, 0, none⟩)) rfl (by kernel_rfl) (by kernel_rfl) (by kernel_rfl) (fun _ _ _ h => h) (Or.inl ⟨by kernel_rfl, fun w' hSw => ?_⟩) hBr ?_
    · go_simp
    try simp only [List.getElem_toArray, List.getElem_cons_succ, List.getElem_cons_zero, Act.put, List.setIfInBounds_toArray, List.set_cons_zero, List.set_cons_succ]
    refine wpAnyH_take (i := 1) (v := .pointer (some ⟨g, 0, none⟩)) rfl (by kernel_rfl) (by kernel_rfl) (by kernel_rfl) (fun _ _ _ h => h) (Or.inl ⟨by kernel_rfl, fun w' hSw => ?_⟩) hBr ?_
    · go_simp
    try simp only [List.getElem_toArray, List.getElem_cons_succ, List.getElem_cons_zero, Act.put, List.setIfInBounds_toArray, List.set_cons_zero, List.set_cons_succ]
    refine wpAnyH_take (i := 2) (v := .pointer (some ⟨g, 25, none⟩)) rfl (by kernel_rfl) (by kernel_rfl) (by kernel_rfl) (fun _ _ _ h => h) (Or.inl ⟨by kernel_rfl, fun w' hSw => ?_⟩) hBr ?_
    · go_simp
    try simp only [List.getElem_toArray, List.getElem_cons_succ, List.getElem_cons_zero, Act.put, List.setIfInBounds_toArray, List.set_cons_zero, List.set_cons_succ]
    refine wpAnyH_take (i := 3) (v := .slice A nl cap) rfl (by kernel_rfl) (by kernel_rfl) (by kernel_rfl) (fun _ _ _ h => h) (Or.inl ⟨by kernel_rfl, fun w' hSw => ?_⟩) hBr ?_
    · (have hcv := (HX.out.1 w' hSw).1; go_simp)
    try simp only [List.getElem_toArray, List.getElem_cons_succ, List.getElem_cons_zero, Act.put, List.setIfInBounds_toArray, List.set_cons_zero, List.set_cons_succ]
    refine wpAnyH_take (i := 4) (v := .pointer (some ⟨g, 0, none⟩)) rfl (by kernel_rfl) (by kernel_rfl) (by kernel_rfl) (fun _ _ _ h => h) (Or.inl ⟨by kernel_rfl, fun w' hSw => ?_⟩) hBr ?_
    · go_simp
    try simp only [List.getElem_toArray, List.getElem_cons_succ, List.getElem_cons_zero, Act.put, List.setIfInBounds_toArray, List.set_cons_zero, List.set_cons_succ]
    refine wpAnyH_take (i := 5) (v := .pointer (some ⟨g, 0, none⟩)) rfl (by kernel_rfl) (by kernel_rfl) (by kernel_rfl) (fun _ _ _ h => h) (Or.inl ⟨by kernel_rfl, fun w' hSw => ?_⟩) hBr ?_
    · go_simp
    try simp only [List.getElem_toArray, List.getElem_cons_succ, List.getElem_cons_zero, Act.put, List.setIfInBounds_toArray, List.set_cons_zero, List.set_cons_succ]
    refine wpAnyH_take (i := 6) (v := .pointer (some ⟨g, 1, none⟩)) rfl (by kernel_rfl) (by kernel_rfl) (by kernel_rfl) (fun _ _ _ h => h) (Or.inl ⟨by kernel_rfl, fun w' hSw => ?_⟩) hBr ?_
    · go_simp
    try simp only [List.getElem_toArray, List.getElem_cons_succ, List.getElem_cons_zero, Act.put, List.setIfInBounds_toArray, List.set_cons_zero, List.set_cons_succ]
    refine wpAnyH_take (i := 7) (v := .agg (r.cmd.cells pv).toArray) rfl (by kernel_rfl) (by kernel_rfl) (by kernel_rfl) (fun _ _ _ h => h) ?_ hBr ?_
    · refine yieldsIf_load_mid ?_ 81 (.tmp 23) ?_ g 1 ?_ (r.cmd.cells pv) _ (fun w' hw => (HX.out.1 w' hw).2) Tryd.underlying81 ?_ cmd_info
      · kernel_rfl
      · rfl
      · kernel_rfl
      · rfl
    try simp only [List.getElem_toArray, List.getElem_cons_succ, List.getElem_cons_zero, Act.put, List.setIfInBounds_toArray, List.set_cons_zero, List.set_cons_succ]
    refine wpAnyH_ready (rs := [8]) (by kernel_rfl) (by simp) ?_
    refine AllReadyH.cons rfl (fun K hK => ?_) ?_
    · go_simp
      refine (HX.out.2.1 _ hBr).mono ?_
      rintro e u1 ⟨rfl, d1⟩
      have hb1 := hBr.trans (d1.mono hBr.size)
      refine Shut.out hK _ _ hb1 (fun _ => ?_)
      clear hK K
      refine wpAnyH_take (i := 9) (v := .tuple #[.slice none 0 0, .int .i64 z1, errv a4]) rfl (by kernel_rfl) (by kernel_rfl) (by kernel_rfl) (fun _ _ _ h => h) (Or.inl ⟨by kernel_rfl, fun w' hSw => ?_⟩) hb1 ?_
      · go_simp
      try simp only [List.getElem_toArray, List.getElem_cons_succ, List.getElem_cons_zero, Act.put, List.setIfInBounds_toArray, List.set_cons_zero, List.set_cons_succ]
      refine wpAnyH_take (i := 10) (v := .slice none 0 0) rfl (by kernel_rfl) (by kernel_rfl) (by kernel_rfl) (fun _ _ _ h => h) (Or.inl ⟨by kernel_rfl, fun w' hSw => ?_⟩) hb1 ?_
      · go_simp
      try simp only [List.getElem_toArray, List.getElem_cons_succ, List.getElem_cons_zero, Act.put, List.setIfInBounds_toArray, List.set_cons_zero, List.set_cons_succ]
      refine wpAnyH_take (i := 11) (v := .int .i64 z1) rfl (by kernel_rfl) (by kernel_rfl) (by kernel_rfl) (fun _ _ _ h => h) (Or.inl ⟨by kernel_rfl, fun w' hSw => ?_⟩) hb1 ?_
      · go_simp
      try simp only [List.getElem_toArray, List.getElem_cons_succ, List.getElem_cons_zero, Act.put, List.setIfInBounds_toArray, List.set_cons_zero, List.set_cons_succ]
      refine wpAnyH_take (i := 12) (v := errv a4) rfl (by kernel_rfl) (by kernel_rfl) (by kernel_rfl) (fun _ _ _ h => h) (Or.inl ⟨by kernel_rfl, fun w' hSw => ?_⟩) hb1 ?_
      · go_simp
      try simp only [List.getElem_toArray, List.getElem_cons_succ, List.getElem_cons_zero, Act.put, List.setIfInBounds_toArray, List.set_cons_zero, List.set_cons_succ]
      refine wpAnyH_take (i := 13) (v := .slice none 0 0) rfl (by kernel_rfl) (by kernel_rfl) (by kernel_rfl) (fun _ _ _ h => h) (Or.inl ⟨by kernel_rfl, fun w' hSw => ?_⟩) hb1 ?_
      · go_simp
      try simp only [List.getElem_toArray, List.getElem_cons_succ, List.getElem_cons_zero, Act.put, List.setIfInBounds_toArray, List.set_cons_zero, List.set_cons_succ]
      refine wpAnyH_take (i := 14) (v := .int .i64 z1) rfl (by kernel_rfl) (by kernel_rfl) (by kernel_rfl) (fun _ _ _ h => h) (Or.inl ⟨by kernel_rfl, fun w' hSw => ?_⟩) hb1 ?_
      · go_simp
      try simp only [List.getElem_toArray, List.getElem_cons_succ, List.getElem_cons_zero, Act.put, List.setIfInBounds_toArray, List.set_cons_zero, List.set_cons_succ]
      refine wpAnyH_take (i := 15) (v := errv a4) rfl (by kernel_rfl) (by kernel_rfl) (by kernel_rfl) (fun _ _ _ h => h) (Or.inl ⟨by kernel_rfl, fun w' hSw => ?_⟩) hb1 ?_
      · go_simp
      try simp only [List.getElem_toArray, List.getElem_cons_succ, List.getElem_cons_zero, Act.put, List.setIfInBounds_toArray, List.set_cons_zero, List.set_cons_succ]
      refine wpAnyH_done (by kernel_rfl) ?_ _
      go_wp2_with (fail)
      go_meet
      exact ⟨rfl, hb1⟩
    exact AllReadyH.nil
  case rest =>
    obtain ⟨rfl, b1⟩ := hcut
    have R3 := HX.out.2.2.1.below b1 (Nat.le_refl _)
    have c22 : wc.cell? ⟨g, 22, none⟩ = some (.int .i64 2) := R3.row.cell 22
    have f22 := R3.row.frozen 22
    have hs := R3.sst 4
    have hF2 : Fr w.heap.size (fun k => k = g ∨ k = ga) W2 (wc.setCell ⟨g, 22, none⟩ (.int .i64 4)) :=
      (Fr.of_below (b1.mono HX.out.2.2.2.1.size) _).trans (hs.2.mono (Nat.le_trans HX.out.2.2.2.1.size b1.size) (fun _ _ h => .inl h))
    have hret : TellPost B g ga n r pv (.slice A nl cap) w (.returned (.tuple #[])) (wc.setCell ⟨g, 22, none⟩ (.int .i64 4)) := by
      refine ⟨rfl, .slice A nl cap, by rw [HX.out.2.2.2.2]; exact hs.1, HX.out.2.2.2.1.trans hF2, .inl ⟨rfl, by rw [HX.out.2.2.2.2]⟩⟩
    clear hs hF2 R3 b1
    go_wp2_with (fail)
    go_end0
    exact hret

theorem tell_any (w : World) (B g ga n : Nat) (f : Nat → Bool) (r : Rnd) (pv lv : Value) (h : RndAt w B g ga n f r pv lv) (hn : 0 < n) (a4 : Addr) (h4 : w.cell? ⟨4, 0, none⟩ = some (errv a4)) :
    Calls Tryd.prog 120 #[.pointer (some ⟨g, 0, none⟩)] w (TellPost B g ga n r pv lv w) := by
  cases hr : r.reads with
  | true => exact tell_reads w B g ga n f r pv lv h hn hr
  | false => cases hl : putL r.led r.cmd with
    | some l => exact tell_some w B g ga n f r pv lv h hn hr a4 h4 l hl
    | none => exact tell_none w B g ga n f r pv lv h hn hr a4 h4 hl
end Go.Proofs.YtnlncfjibbdimaaDoor
