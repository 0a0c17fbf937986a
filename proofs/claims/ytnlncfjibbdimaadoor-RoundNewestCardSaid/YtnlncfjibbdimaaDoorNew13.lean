/-
  A round is made: New.
-/
import Derived.Test.YtnlncfjibbdimaaDoorBegin13
import Derived.Test.YtnlncfjibbdimaaDoorPut13
import Derived.Test.YtnlncfjibbdimaaDoorCheck
namespace Go.Proofs.YtnlncfjibbdimaaDoor
open Go.RowKit
set_option linter.unusedSimpArgs false
set_option linter.unusedVariables false

set_option maxRecDepth 100000 in
set_option maxHeartbeats 1600000 in
theorem new13_num (w : World) (n : Int) (c : Cmd) (pv : Value) (reads : Bool) (a0 : Addr) (h0 : w.cell? ⟨0, 0, none⟩ = some (errv a0)) (hn : n < 1 ∨ 16 < n) :
    Calls Tryd.prog 53 #[.int .i64 n, .agg (c.cells pv).toArray, .bool reads] w fun e w' => e = .returned (.tuple #[.pointer none, errv a0]) ∧ Below w.heap.size w w' := by
  have bA : Below w.heap.size w (w.alloc (.cells (c.cells pv).toArray 81)) := (Below.refl _ _).alloc (Nat.le_refl _) _
  have c0 := (bA.cell (World.block_lt_of_cell? w _ h0)).trans h0
  have HB := Lib.hid bA
  clear bA h0
  by_cases h1 : n < 1
  · clear hn
    go_enter Tryd.func53, Tryd.ntmps53
    go_upto_region 2 with (fail)
    go_region_held3 (fun w' => w'.cell? ⟨0, 0, none⟩ = some (errv a0)) (go_keep) (fail)
    go_wp2_with (fail)
    go_ret2
    exact ⟨rfl, HB.out.drew⟩
  · have h2 : n > 16 := by omega
    clear hn
    go_enter Tryd.func53, Tryd.ntmps53
    go_upto_region 2 with (fail)
    go_region_held3 (fun w' => w'.cell? ⟨0, 0, none⟩ = some (errv a0)) (go_keep) (fail)
    go_wp2_with (fail)
    go_ret2
    exact ⟨rfl, HB.out.drew⟩

set_option maxRecDepth 100000 in
set_option maxHeartbeats 1600000 in
theorem new13_state (w : World) (n : Nat) (c : Cmd) (hz : c.Sized) (pv : Value) (lo hi : Nat) (hp : IntsAt w lo hi pv c.parts) (hhi : hi ≤ w.heap.size) (a1 : Addr) (h1 : w.cell? ⟨1, 0, none⟩ = some (errv a1)) (hn : 1 ≤ n ∧ n ≤ 16) (hc : chkB c = false) :
    Calls Tryd.prog 53 #[.int .i64 n, .agg (c.cells pv).toArray, .bool false] w fun e w' => e = .returned (.tuple #[.pointer none, errv a1]) ∧ Below w.heap.size w w' := by
  have bA : Below w.heap.size w (w.alloc (.cells (c.cells pv).toArray 81)) := (Below.refl _ _).alloc (Nat.le_refl _) _
  have hX := Blk.new w 81 (c.cells pv).toArray
  have hr := hX.range
  have h1l := World.block_lt_of_cell? w _ h1
  have k43 := check_any c hz (w.alloc (.cells (c.cells pv).toArray 81)) lo hi pv (hp.fr (Fr.of_below bA (fun _ => False)) hhi (fun _ _ _ h => h)) (Nat.le_trans hhi bA.size) a1 ((bA.cell h1l).trans h1)
  rw [hc] at k43
  have hG : ∀ W, Below w.heap.size w W → W.cell? ⟨1, 0, none⟩ = some (errv a1) := fun W b => (b.cell h1l).trans h1
  have HB := Lib.hid (And.intro bA (And.intro k43 hG))
  have n1 : ¬ (n : Int) < 1 := by omega
  have n2 : ¬ (n : Int) > 16 := by omega
  have hld := run_loadVar_mid (P := Tryd.prog) _ w.heap.size 0 81 (c.cells pv) _ hr Tryd.underlying81 rfl cmd_info
  simp [go_sem] at hld
  clear bA h1 h1l k43 hG hc hn hX hp hr
  go_enter Tryd.func53, Tryd.ntmps53
  go_upto_region 4 with (first
    | (go_at_call 43; refine HB.out.2.1.mono ?_; rintro e w2 ⟨rfl, b2⟩; have H2 := Lib.hid (HB.out.1.trans (b2.mono HB.out.1.size)); have cE := HB.out.2.2 w2 H2.out; clear b2)
    | fail)
  go_region_held3 (fun w' => w'.cell? ⟨1, 0, none⟩ = some (errv a1)) (go_keep) (fail)
  go_wp2_with (fail)
  go_ret2
  exact ⟨rfl, H2.out.drew⟩

/-- What New makes. -/
def New13Post (n : Nat) (c : Cmd) (reads : Bool) (w : World) (e : Ending) (w' : World) : Prop :=
  ∃ ga pv', e = .returned (.tuple #[.pointer (some ⟨ga + 1, 0, none⟩), .nilIface]) ∧ w.heap.size ≤ ga ∧ ga + 2 ≤ w'.heap.size ∧
    RndAt w' w'.heap.size (ga + 1) ga n (fun _ => false) ⟨c, reads, 0, 0, 0, 0, 0, [], 0⟩ pv' (.slice none 0 0) ∧ OwnInts w' w.heap.size ga pv' c.parts ∧ Below w.heap.size w w'

set_option maxRecDepth 100000 in
set_option maxHeartbeats 1600000 in
theorem new13_reads (w : World) (n : Nat) (c : Cmd) (pv : Value) (lo hi : Nat) (hp : IntsAt w lo hi pv c.parts) (hhi : hi ≤ w.heap.size) (hn : 1 ≤ n ∧ n ≤ 16) :
    Calls Tryd.prog 53 #[.int .i64 n, .agg (c.cells pv).toArray, .bool true] w (New13Post n c true w) := by
  have bA : Below w.heap.size w (w.alloc (.cells (c.cells pv).toArray 81)) := (Below.refl _ _).alloc (Nat.le_refl _) _
  have hX := Blk.new w 81 (c.cells pv).toArray
  have hr := hX.range
  obtain ⟨pA, pc, hpv⟩ : ∃ pA pc, pv = .slice pA c.parts.length pc := by
    obtain ⟨A1, c1, q1, _⟩ := hp
    exact ⟨A1, c1, q1⟩
  subst hpv
  have hmk := make_bools n (by omega)
  have n1 : ¬ (n : Int) < 1 := by omega
  have n2 : ¬ (n : Int) > 16 := by omega
  have HB := Lib.hid (And.intro bA (And.intro hX (And.intro hp hn)))
  clear bA hn hX hp hr
  go_enter Tryd.func53, Tryd.ntmps53
  go_upto_region 5 with (fail)
  refine wp_letter (fun W => Below w.heap.size w W ∧ Blk W w.heap.size 81 (c.cells (.slice pA c.parts.length pc)).toArray) ⟨HB.out.1, HB.out.2.1⟩ ?_
  skip
  rintro W ⟨hb, hX⟩
  obtain ⟨x, hx⟩ : ∃ x, x = w.heap.size := ⟨_, rfl⟩
  rw [← hx] at hX ⊢
  have k115 := clone_ints W lo hi _ c.parts (HB.out.2.2.1.fr (Fr.of_below hb (fun _ => False)) hhi (fun _ _ _ h => h)) (Nat.le_trans hhi hb.size)
  have c15 : W.cell? ⟨x, 15, none⟩ = some (.slice pA c.parts.length pc) := hX.cell 15
  have HW := Lib.hid (And.intro hb (And.intro hX (And.intro k115 hx)))
  clear hb hX k115 hx
  go_upto_region 6 with (first
    | (go_at_call 115
       refine HW.out.2.2.1.mono ?_
       rintro e w1 ⟨v1, rfl, o1, b1⟩
       obtain ⟨A1, c1, hv1, _⟩ := o1.1.form
       subst hv1
       have hX1 := HW.out.2.1.below b1 HW.out.2.1.lt
       have d15 : w1.cell? ⟨x, 15, none⟩ = some (.slice pA c.parts.length pc) := hX1.cell 15
       have f15 := hX1.frozen 15
       have H1 := Lib.hid (And.intro o1 (And.intro b1 hX1))
       clear o1 b1 hX1)
    | fail)
  clear c15 d15 f15
  have hsz := H1.out.2.1.size
  have hxl := HW.out.2.1.lt
  refine wp_letter (fun W2 => Below w.heap.size w W2 ∧ Blk W2 x 81 (c.cells (.slice A1 c.parts.length c1)).toArray ∧ OwnInts W2 w.heap.size W2.heap.size (.slice A1 c.parts.length c1) c.parts)
    ⟨(HW.out.1.trans (H1.out.2.1.mono HW.out.1.size)).setCell (p := ⟨x, 15, none⟩) (by rw [← HW.out.2.2.2]; exact Nat.le_refl _) _, H1.out.2.2.set_ 15 _,
     ((H1.out.1.fr ((Fr.refl w1.heap.size (fun k => k = x) w1).setCell (p := ⟨x, 15, none⟩) (.inl rfl) (.slice A1 c.parts.length c1)) (Nat.le_refl _) (fun k h1 _ he => by omega)).wider HW.out.1.size (by simp))⟩ ?_
  rintro W2 ⟨hb2, hX2, ho2⟩
  have hr2 := fun W' (b : Below W2.heap.size W2 W') => (hX2.below b hX2.lt).range
  have H2 := Lib.hid (And.intro hb2 (And.intro hX2 (And.intro ho2 hr2)))
  clear hb2 hX2 ho2 hr2 hsz hxl H1
  have hBr : Below W2.heap.size W2 W2.drew := (Below.refl W2.heap.size W2).drew
  go_cut [6, 7] (fun v6 v7 wx => v6 = .pointer (some ⟨W2.heap.size + 1, 0, none⟩) ∧ v7 = .nilIface ∧ Below W2.heap.size W2 wx ∧ Blk wx W2.heap.size 4 (bls (fun _ => false) n) ∧ Blk wx (W2.heap.size + 1) 199 ((⟨c, true, 0, 0, 0, 0, 0, [], 0⟩ : Rnd).cells (.slice (some ⟨W2.heap.size, 0, none⟩) n n) (.slice A1 c.parts.length c1) (.slice none 0 0)).toArray)
  case first =>
    refine wp_region_held_drew (S := fun w' => Below W2.heap.size W2 w') (by kernel_rfl) hBr (fun _ => ?_)
    refine wpAnyH_take (i := 0) (v := .int .i64 n) rfl (by kernel_rfl) (by kernel_rfl) (by kernel_rfl) (fun _ _ _ h => h) (Or.inl ⟨by kernel_rfl, fun w' hSw => ?_⟩) hBr ?_
    · go_simp
    try simp only [List.getElem_toArray, List.getElem_cons_succ, List.getElem_cons_zero, Act.put, List.setIfInBounds_toArray, List.set_cons_zero, List.set_cons_succ]
    refine wpAnyH_take (i := 2) (v := .agg #[.int .i64 c.kind, .int .i64 c.idn, .int .i64 c.idb, .int .i64 c.ids, .string c.bucket, .string c.key, .int .i64 c.upn, .int .i64 c.upb, .int .i64 c.ups, .int .i64 c.pbn, .int .i64 c.pbb, .int .i64 c.pbs, .int .i64 c.psize, .string c.etag, .int .i64 c.part, .slice A1 c.parts.length c1, .int .i64 c.time, .int .i64 c.days]) rfl (by kernel_rfl) (by kernel_rfl) (by kernel_rfl) (fun _ _ _ h => h) ?_ hBr ?_
    · refine yieldsIf_load_mid ?_ 81 (.tmp 4) ?_ x 0 ?_ (c.cells (.slice A1 c.parts.length c1)) _ H2.out.2.2.2 Tryd.underlying81 ?_ cmd_info
      · kernel_rfl
      · rfl
      · kernel_rfl
      · rfl
    try simp only [List.getElem_toArray, List.getElem_cons_succ, List.getElem_cons_zero, Act.put, List.setIfInBounds_toArray, List.set_cons_zero, List.set_cons_succ]
    refine wpAnyH_take (i := 3) (v := .bool true) rfl (by kernel_rfl) (by kernel_rfl) (by kernel_rfl) (fun _ _ _ h => h) (Or.inl ⟨by kernel_rfl, fun w' hSw => ?_⟩) hBr ?_
    · go_simp
    try simp only [List.getElem_toArray, List.getElem_cons_succ, List.getElem_cons_zero, Act.put, List.setIfInBounds_toArray, List.set_cons_zero, List.set_cons_succ]
    refine wpAnyH_ready (rs := [1]) (by kernel_rfl) (by simp) ?_
    refine AllReadyH.cons rfl (fun K hK => ?_) ?_
    · have hb1 : Below W2.heap.size W2 (World.alloc W2.drew (.cells (bls (fun _ => false) n) 4)) := hBr.alloc hBr.size _
      have hz1 : Blk (World.alloc W2.drew (.cells (bls (fun _ => false) n) 4)) W2.heap.size 4 (bls (fun _ => false) n) := Blk.new W2.drew 4 _
      have H3 := Lib.hid hz1
      clear hz1
      go_simp
      refine Shut.out hK _ _ hb1 (fun _ => ?_)
      clear hK K
      refine wpAnyH_take (i := 4) (v := (.agg #[.slice (some ⟨W2.heap.size, 0, none⟩) n n, .int .i64 c.kind, .int .i64 c.idn, .int .i64 c.idb, .int .i64 c.ids, .string c.bucket, .string c.key, .int .i64 c.upn, .int .i64 c.upb, .int .i64 c.ups, .int .i64 c.pbn, .int .i64 c.pbb, .int .i64 c.pbs, .int .i64 c.psize, .string c.etag, .int .i64 c.part, .slice A1 c.parts.length c1, .int .i64 c.time, .int .i64 c.days, .bool true, .int .i64 0, .int .i64 0, .int .i64 0, .int .i64 0, .int .i64 0, .slice none 0 0, .int .i64 0])) rfl (by kernel_rfl) (by kernel_rfl) (by kernel_rfl) (fun _ _ _ h => h) (Or.inl ⟨by kernel_rfl, fun w' hSw => ?_⟩) hb1 ?_
      · go_simp
      try simp only [List.getElem_toArray, List.getElem_cons_succ, List.getElem_cons_zero, Act.put, List.setIfInBounds_toArray, List.set_cons_zero, List.set_cons_succ]
      have hb2 : Below W2.heap.size W2 (World.alloc (World.alloc W2.drew (.cells (bls (fun _ => false) n) 4)) (.cells #[.slice (some ⟨W2.heap.size, 0, none⟩) n n, .int .i64 c.kind, .int .i64 c.idn, .int .i64 c.idb, .int .i64 c.ids, .string c.bucket, .string c.key, .int .i64 c.upn, .int .i64 c.upb, .int .i64 c.ups, .int .i64 c.pbn, .int .i64 c.pbb, .int .i64 c.pbs, .int .i64 c.psize, .string c.etag, .int .i64 c.part, .slice A1 c.parts.length c1, .int .i64 c.time, .int .i64 c.days, .bool true, .int .i64 0, .int .i64 0, .int .i64 0, .int .i64 0, .int .i64 0, .slice none 0 0, .int .i64 0] 199)) := hb1.alloc hb1.size _
      have hz2 : Blk (World.alloc (World.alloc W2.drew (.cells (bls (fun _ => false) n) 4)) (.cells #[.slice (some ⟨W2.heap.size, 0, none⟩) n n, .int .i64 c.kind, .int .i64 c.idn, .int .i64 c.idb, .int .i64 c.ids, .string c.bucket, .string c.key, .int .i64 c.upn, .int .i64 c.upb, .int .i64 c.ups, .int .i64 c.pbn, .int .i64 c.pbb, .int .i64 c.pbs, .int .i64 c.psize, .string c.etag, .int .i64 c.part, .slice A1 c.parts.length c1, .int .i64 c.time, .int .i64 c.days, .bool true, .int .i64 0, .int .i64 0, .int .i64 0, .int .i64 0, .int .i64 0, .slice none 0 0, .int .i64 0] 199)) (W2.heap.size + 1) 199 #[.slice (some ⟨W2.heap.size, 0, none⟩) n n, .int .i64 c.kind, .int .i64 c.idn, .int .i64 c.idb, .int .i64 c.ids, .string c.bucket, .string c.key, .int .i64 c.upn, .int .i64 c.upb, .int .i64 c.ups, .int .i64 c.pbn, .int .i64 c.pbb, .int .i64 c.pbs, .int .i64 c.psize, .string c.etag, .int .i64 c.part, .slice A1 c.parts.length c1, .int .i64 c.time, .int .i64 c.days, .bool true, .int .i64 0, .int .i64 0, .int .i64 0, .int .i64 0, .int .i64 0, .slice none 0 0, .int .i64 0] := Blk.new1 W2.drew _ 199 _
      have H4 := Lib.hid (And.intro (H3.out.alloc (.cells #[.slice (some ⟨W2.heap.size, 0, none⟩) n n, .int .i64 c.kind, .int .i64 c.idn, .int .i64 c.idb, .int .i64 c.ids, .string c.bucket, .string c.key, .int .i64 c.upn, .int .i64 c.upb, .int .i64 c.ups, .int .i64 c.pbn, .int .i64 c.pbb, .int .i64 c.pbs, .int .i64 c.psize, .string c.etag, .int .i64 c.part, .slice A1 c.parts.length c1, .int .i64 c.time, .int .i64 c.days, .bool true, .int .i64 0, .int .i64 0, .int .i64 0, .int .i64 0, .int .i64 0, .slice none 0 0, .int .i64 0] 199)) hz2)
      clear hz2
      refine wpAnyH_ready (rs := [5]) (by kernel_rfl) (by simp) ?_
      refine AllReadyH.cons rfl (fun K hK => ?_) ?_
      · go_simp
        refine Shut.out hK _ _ hb2 (fun _ => ?_)
        clear hK K
        refine wpAnyH_take (i := 6) (v := .pointer (some ⟨W2.heap.size + 1, 0, none⟩)) rfl (by kernel_rfl) (by kernel_rfl) (by kernel_rfl) (fun _ _ _ h => h) (Or.inl ⟨by kernel_rfl, fun w' hSw => ?_⟩) hb2 ?_
        · go_simp
        try simp only [List.getElem_toArray, List.getElem_cons_succ, List.getElem_cons_zero, Act.put, List.setIfInBounds_toArray, List.set_cons_zero, List.set_cons_succ]
        refine wpAnyH_take (i := 7) (v := .nilIface) rfl (by kernel_rfl) (by kernel_rfl) (by kernel_rfl) (fun _ _ _ h => h) (Or.inl ⟨by kernel_rfl, fun w' hSw => ?_⟩) hb2 ?_
        · go_simp
        try simp only [List.getElem_toArray, List.getElem_cons_succ, List.getElem_cons_zero, Act.put, List.setIfInBounds_toArray, List.set_cons_zero, List.set_cons_succ]
        refine wpAnyH_done (by kernel_rfl) ?_ _
        go_wp2_with (fail)
        go_meet
        exact ⟨rfl, rfl, hb2, H4.out.1, H4.out.2⟩
      exact AllReadyH.nil
    exact AllReadyH.nil
  case rest =>
    obtain ⟨rfl, rfl, b3, hG, hA⟩ := hcut
    have hret : New13Post n c true w (.returned (.tuple #[.pointer (some ⟨W2.heap.size + 1, 0, none⟩), .nilIface])) wc := by
      have hs3 := b3.size
      have hl := hA.lt
      have hp3 := H2.out.2.2.1.fr (Fr.of_below b3 (fun _ => False)) (Nat.le_refl _) (fun _ _ _ h => h)
      exact ⟨W2.heap.size, _, rfl, H2.out.1.size, by omega, ⟨by omega, by omega, by omega, Nat.le_refl _, hA, hG, ⟨W2.heap.size, by omega, Nat.le_refl _, hp3.at_.wider (Nat.zero_le _) (Nat.le_refl _)⟩, (OwnLed.nil_ _ _ _).at_, HB.out.2.2.2.2⟩, hp3, H2.out.1.trans (b3.mono H2.out.1.size)⟩
    clear b3 hG hA
    go_wp2_with (fail)
    go_ret2
    exact hret

set_option maxRecDepth 100000 in
set_option maxHeartbeats 1600000 in
theorem new13_cmd (w : World) (n : Nat) (c : Cmd) (hz : c.Sized) (pv : Value) (lo hi : Nat) (hp : IntsAt w lo hi pv c.parts) (hhi : hi ≤ w.heap.size) (hn : 1 ≤ n ∧ n ≤ 16) (a1 : Addr) (h1 : w.cell? ⟨1, 0, none⟩ = some (errv a1)) (hc : chkB c = true) :
    Calls Tryd.prog 53 #[.int .i64 n, .agg (c.cells pv).toArray, .bool false] w (New13Post n c false w) := by
  have bA : Below w.heap.size w (w.alloc (.cells (c.cells pv).toArray 81)) := (Below.refl _ _).alloc (Nat.le_refl _) _
  have hX := Blk.new w 81 (c.cells pv).toArray
  have hr := hX.range
  have h1l := World.block_lt_of_cell? w _ h1
  have k43 := check_any c hz (w.alloc (.cells (c.cells pv).toArray 81)) lo hi pv (hp.fr (Fr.of_below bA (fun _ => False)) hhi (fun _ _ _ h => h)) (Nat.le_trans hhi bA.size) a1 ((bA.cell h1l).trans h1)
  rw [hc] at k43
  have HC := Lib.hid k43
  have hld := run_loadVar_mid (P := Tryd.prog) _ w.heap.size 0 81 (c.cells pv) _ hr Tryd.underlying81 rfl cmd_info
  simp [go_sem] at hld
  clear k43 h1 h1l hc
  obtain ⟨pA, pc, hpv⟩ : ∃ pA pc, pv = .slice pA c.parts.length pc := by
    obtain ⟨A1, c1, q1, _⟩ := hp
    exact ⟨A1, c1, q1⟩
  subst hpv
  have hmk := make_bools n (by omega)
  have n1 : ¬ (n : Int) < 1 := by omega
  have n2 : ¬ (n : Int) > 16 := by omega
  have HB := Lib.hid (And.intro bA (And.intro hX (And.intro hp hn)))
  clear bA hn hX hp hr
  go_enter Tryd.func53, Tryd.ntmps53
  go_upto_region 5 with (first
    | (go_at_call 43; refine HC.out.mono ?_; rintro e w2 ⟨rfl, b2⟩; have H2 := Lib.hid b2; clear b2)
    | fail)
  refine wp_letter (fun W => Below w.heap.size w W ∧ Blk W w.heap.size 81 (c.cells (.slice pA c.parts.length pc)).toArray) ⟨HB.out.1.trans (H2.out.mono HB.out.1.size), HB.out.2.1.below H2.out HB.out.2.1.lt⟩ ?_
  clear hld H2
  rintro W ⟨hb, hX⟩
  obtain ⟨x, hx⟩ : ∃ x, x = w.heap.size := ⟨_, rfl⟩
  rw [← hx] at hX ⊢
  have k115 := clone_ints W lo hi _ c.parts (HB.out.2.2.1.fr (Fr.of_below hb (fun _ => False)) hhi (fun _ _ _ h => h)) (Nat.le_trans hhi hb.size)
  have c15 : W.cell? ⟨x, 15, none⟩ = some (.slice pA c.parts.length pc) := hX.cell 15
  have HW := Lib.hid (And.intro hb (And.intro hX (And.intro k115 hx)))
  clear hb hX k115 hx
  go_upto_region 6 with (first
    | (go_at_call 115
       refine HW.out.2.2.1.mono ?_
       rintro e w1 ⟨v1, rfl, o1, b1⟩
       obtain ⟨A1, c1, hv1, _⟩ := o1.1.form
       subst hv1
       have hX1 := HW.out.2.1.below b1 HW.out.2.1.lt
       have d15 : w1.cell? ⟨x, 15, none⟩ = some (.slice pA c.parts.length pc) := hX1.cell 15
       have f15 := hX1.frozen 15
       have H1 := Lib.hid (And.intro o1 (And.intro b1 hX1))
       clear o1 b1 hX1)
    | fail)
  clear c15 d15 f15
  have hsz := H1.out.2.1.size
  have hxl := HW.out.2.1.lt
  refine wp_letter (fun W2 => Below w.heap.size w W2 ∧ Blk W2 x 81 (c.cells (.slice A1 c.parts.length c1)).toArray ∧ OwnInts W2 w.heap.size W2.heap.size (.slice A1 c.parts.length c1) c.parts)
    ⟨(HW.out.1.trans (H1.out.2.1.mono HW.out.1.size)).setCell (p := ⟨x, 15, none⟩) (by rw [← HW.out.2.2.2]; exact Nat.le_refl _) _, H1.out.2.2.set_ 15 _,
     ((H1.out.1.fr ((Fr.refl w1.heap.size (fun k => k = x) w1).setCell (p := ⟨x, 15, none⟩) (.inl rfl) (.slice A1 c.parts.length c1)) (Nat.le_refl _) (fun k h1 _ he => by omega)).wider HW.out.1.size (by simp))⟩ ?_
  rintro W2 ⟨hb2, hX2, ho2⟩
  have hr2 := fun W' (b : Below W2.heap.size W2 W') => (hX2.below b hX2.lt).range
  have H2 := Lib.hid (And.intro hb2 (And.intro hX2 (And.intro ho2 hr2)))
  clear hb2 hX2 ho2 hr2 hsz hxl H1
  have hBr : Below W2.heap.size W2 W2.drew := (Below.refl W2.heap.size W2).drew
  go_cut [6, 7] (fun v6 v7 wx => v6 = .pointer (some ⟨W2.heap.size + 1, 0, none⟩) ∧ v7 = .nilIface ∧ Below W2.heap.size W2 wx ∧ Blk wx W2.heap.size 4 (bls (fun _ => false) n) ∧ Blk wx (W2.heap.size + 1) 199 ((⟨c, false, 0, 0, 0, 0, 0, [], 0⟩ : Rnd).cells (.slice (some ⟨W2.heap.size, 0, none⟩) n n) (.slice A1 c.parts.length c1) (.slice none 0 0)).toArray)
  case first =>
    refine wp_region_held_drew (S := fun w' => Below W2.heap.size W2 w') (by kernel_rfl) hBr (fun _ => ?_)
    refine wpAnyH_take (i := 0) (v := .int .i64 n) rfl (by kernel_rfl) (by kernel_rfl) (by kernel_rfl) (fun _ _ _ h => h) (Or.inl ⟨by kernel_rfl, fun w' hSw => ?_⟩) hBr ?_
    · go_simp
    try simp only [List.getElem_toArray, List.getElem_cons_succ, List.getElem_cons_zero, Act.put, List.setIfInBounds_toArray, List.set_cons_zero, List.set_cons_succ]
    refine wpAnyH_take (i := 2) (v := .agg #[.int .i64 c.kind, .int .i64 c.idn, .int .i64 c.idb, .int .i64 c.ids, .string c.bucket, .string c.key, .int .i64 c.upn, .int .i64 c.upb, .int .i64 c.ups, .int .i64 c.pbn, .int .i64 c.pbb, .int .i64 c.pbs, .int .i64 c.psize, .string c.etag, .int .i64 c.part, .slice A1 c.parts.length c1, .int .i64 c.time, .int .i64 c.days]) rfl (by kernel_rfl) (by kernel_rfl) (by kernel_rfl) (fun _ _ _ h => h) ?_ hBr ?_
    · refine yieldsIf_load_mid ?_ 81 (.tmp 4) ?_ x 0 ?_ (c.cells (.slice A1 c.parts.length c1)) _ H2.out.2.2.2 Tryd.underlying81 ?_ cmd_info
      · kernel_rfl
      · rfl
      · kernel_rfl
      · rfl
    try simp only [List.getElem_toArray, List.getElem_cons_succ, List.getElem_cons_zero, Act.put, List.setIfInBounds_toArray, List.set_cons_zero, List.set_cons_succ]
    refine wpAnyH_take (i := 3) (v := .bool false) rfl (by kernel_rfl) (by kernel_rfl) (by kernel_rfl) (fun _ _ _ h => h) (Or.inl ⟨by kernel_rfl, fun w' hSw => ?_⟩) hBr ?_
    · go_simp
    try simp only [List.getElem_toArray, List.getElem_cons_succ, List.getElem_cons_zero, Act.put, List.setIfInBounds_toArray, List.set_cons_zero, List.set_cons_succ]
    refine wpAnyH_ready (rs := [1]) (by kernel_rfl) (by simp) ?_
    refine AllReadyH.cons rfl (fun K hK => ?_) ?_
    · have hb1 : Below W2.heap.size W2 (World.alloc W2.drew (.cells (bls (fun _ => false) n) 4)) := hBr.alloc hBr.size _
      have hz1 : Blk (World.alloc W2.drew (.cells (bls (fun _ => false) n) 4)) W2.heap.size 4 (bls (fun _ => false) n) := Blk.new W2.drew 4 _
      have H3 := Lib.hid hz1
      clear hz1
      go_simp
      refine Shut.out hK _ _ hb1 (fun _ => ?_)
      clear hK K
      refine wpAnyH_take (i := 4) (v := (.agg #[.slice (some ⟨W2.heap.size, 0, none⟩) n n, .int .i64 c.kind, .int .i64 c.idn, .int .i64 c.idb, .int .i64 c.ids, .string c.bucket, .string c.key, .int .i64 c.upn, .int .i64 c.upb, .int .i64 c.ups, .int .i64 c.pbn, .int .i64 c.pbb, .int .i64 c.pbs, .int .i64 c.psize, .string c.etag, .int .i64 c.part, .slice A1 c.parts.length c1, .int .i64 c.time, .int .i64 c.days, .bool false, .int .i64 0, .int .i64 0, .int .i64 0, .int .i64 0, .int .i64 0, .slice none 0 0, .int .i64 0])) rfl (by kernel_rfl) (by kernel_rfl) (by kernel_rfl) (fun _ _ _ h => h) (Or.inl ⟨by kernel_rfl, fun w' hSw => ?_⟩) hb1 ?_
      · go_simp
      try simp only [List.getElem_toArray, List.getElem_cons_succ, List.getElem_cons_zero, Act.put, List.setIfInBounds_toArray, List.set_cons_zero, List.set_cons_succ]
      have hb2 : Below W2.heap.size W2 (World.alloc (World.alloc W2.drew (.cells (bls (fun _ => false) n) 4)) (.cells #[.slice (some ⟨W2.heap.size, 0, none⟩) n n, .int .i64 c.kind, .int .i64 c.idn, .int .i64 c.idb, .int .i64 c.ids, .string c.bucket, .string c.key, .int .i64 c.upn, .int .i64 c.upb, .int .i64 c.ups, .int .i64 c.pbn, .int .i64 c.pbb, .int .i64 c.pbs, .int .i64 c.psize, .string c.etag, .int .i64 c.part, .slice A1 c.parts.length c1, .int .i64 c.time, .int .i64 c.days, .bool false, .int .i64 0, .int .i64 0, .int .i64 0, .int .i64 0, .int .i64 0, .slice none 0 0, .int .i64 0] 199)) := hb1.alloc hb1.size _
      have hz2 : Blk (World.alloc (World.alloc W2.drew (.cells (bls (fun _ => false) n) 4)) (.cells #[.slice (some ⟨W2.heap.size, 0, none⟩) n n, .int .i64 c.kind, .int .i64 c.idn, .int .i64 c.idb, .int .i64 c.ids, .string c.bucket, .string c.key, .int .i64 c.upn, .int .i64 c.upb, .int .i64 c.ups, .int .i64 c.pbn, .int .i64 c.pbb, .int .i64 c.pbs, .int .i64 c.psize, .string c.etag, .int .i64 c.part, .slice A1 c.parts.length c1, .int .i64 c.time, .int .i64 c.days, .bool false, .int .i64 0, .int .i64 0, .int .i64 0, .int .i64 0, .int .i64 0, .slice none 0 0, .int .i64 0] 199)) (W2.heap.size + 1) 199 #[.slice (some ⟨W2.heap.size, 0, none⟩) n n, .int .i64 c.kind, .int .i64 c.idn, .int .i64 c.idb, .int .i64 c.ids, .string c.bucket, .string c.key, .int .i64 c.upn, .int .i64 c.upb, .int .i64 c.ups, .int .i64 c.pbn, .int .i64 c.pbb, .int .i64 c.pbs, .int .i64 c.psize, .string c.etag, .int .i64 c.part, .slice A1 c.parts.length c1, .int .i64 c.time, .int .i64 c.days, .bool false, .int .i64 0, .int .i64 0, .int .i64 0, .int .i64 0, .int .i64 0, .slice none 0 0, .int .i64 0] := Blk.new1 W2.drew _ 199 _
      have H4 := Lib.hid (And.intro (H3.out.alloc (.cells #[.slice (some ⟨W2.heap.size, 0, none⟩) n n, .int .i64 c.kind, .int .i64 c.idn, .int .i64 c.idb, .int .i64 c.ids, .string c.bucket, .string c.key, .int .i64 c.upn, .int .i64 c.upb, .int .i64 c.ups, .int .i64 c.pbn, .int .i64 c.pbb, .int .i64 c.pbs, .int .i64 c.psize, .string c.etag, .int .i64 c.part, .slice A1 c.parts.length c1, .int .i64 c.time, .int .i64 c.days, .bool false, .int .i64 0, .int .i64 0, .int .i64 0, .int .i64 0, .int .i64 0, .slice none 0 0, .int .i64 0] 199)) hz2)
      clear hz2
      refine wpAnyH_ready (rs := [5]) (by kernel_rfl) (by simp) ?_
      refine AllReadyH.cons rfl (fun K hK => ?_) ?_
      · go_simp
        refine Shut.out hK _ _ hb2 (fun _ => ?_)
        clear hK K
        refine wpAnyH_take (i := 6) (v := .pointer (some ⟨W2.heap.size + 1, 0, none⟩)) rfl (by kernel_rfl) (by kernel_rfl) (by kernel_rfl) (fun _ _ _ h => h) (Or.inl ⟨by kernel_rfl, fun w' hSw => ?_⟩) hb2 ?_
        · go_simp
        try simp only [List.getElem_toArray, List.getElem_cons_succ, List.getElem_cons_zero, Act.put, List.setIfInBounds_toArray, List.set_cons_zero, List.set_cons_succ]
        refine wpAnyH_take (i := 7) (v := .nilIface) rfl (by kernel_rfl) (by kernel_rfl) (by kernel_rfl) (fun _ _ _ h => h) (Or.inl ⟨by kernel_rfl, fun w' hSw => ?_⟩) hb2 ?_
        · go_simp
        try simp only [List.getElem_toArray, List.getElem_cons_succ, List.getElem_cons_zero, Act.put, List.setIfInBounds_toArray, List.set_cons_zero, List.set_cons_succ]
        refine wpAnyH_done (by kernel_rfl) ?_ _
        go_wp2_with (fail)
        go_meet
        exact ⟨rfl, rfl, hb2, H4.out.1, H4.out.2⟩
      exact AllReadyH.nil
    exact AllReadyH.nil
  case rest =>
    obtain ⟨rfl, rfl, b3, hG, hA⟩ := hcut
    have hret : New13Post n c false w (.returned (.tuple #[.pointer (some ⟨W2.heap.size + 1, 0, none⟩), .nilIface])) wc := by
      have hs3 := b3.size
      have hl := hA.lt
      have hp3 := H2.out.2.2.1.fr (Fr.of_below b3 (fun _ => False)) (Nat.le_refl _) (fun _ _ _ h => h)
      exact ⟨W2.heap.size, _, rfl, H2.out.1.size, by omega, ⟨by omega, by omega, by omega, Nat.le_refl _, hA, hG, ⟨W2.heap.size, by omega, Nat.le_refl _, hp3.at_.wider (Nat.zero_le _) (Nat.le_refl _)⟩, (OwnLed.nil_ _ _ _).at_, HB.out.2.2.2.2⟩, hp3, H2.out.1.trans (b3.mono H2.out.1.size)⟩
    clear b3 hG hA
    go_wp2_with (fail)
    go_ret2
    exact hret
end Go.Proofs.YtnlncfjibbdimaaDoor
