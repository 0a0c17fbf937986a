/-
  The document's round: one more is heard.
  The document's round: its Accepted where the answer counts.
  A round beside the document's: who has answered is who is heard. Plain Lean.
  The document's round: its Promise.
-/
import Derived.Test.YtnlncfjibbdimaaDoorQC13
import Derived.Test.YtnlncfjibbdimaaDoorQA13
namespace Go.Proofs.YtnlncfjibbdimaaDoor
open Go.RowKit
set_option linter.unusedSimpArgs false
set_option linter.unusedVariables false

theorem ownsRow_frK {w w' : World} {B base e size n : Nat} {v : Value} {xs : List Value} {S : Nat → Prop} (h : w.ownsRow base e size v n xs) (f : Fr B S w w') (hB : w.heap.size ≤ B) (hS : ∀ k, v.ownBlock = some k → ¬ S k) : w'.ownsRow base e size v n xs := by
  refine ⟨h.1, ?_⟩
  rcases h.2 with h2 | ⟨k, cap, cur, he, hb, hh, hr⟩
  · exact .inl h2
  · have hk : Blk w k e cur := hh
    exact .inr ⟨k, cap, cur, he, hb, hk.fr f (Nat.lt_of_lt_of_le hk.lt hB) (hS k (by rw [he]; simp [Value.ownBlock])), hr⟩
theorem MAt.ints {w : World} {M : Nat → Prop} {g n : Nat} {hs : List Int} {r : Rnd} {pv hv lv : Value} (h : MAt w M g n hs r pv hv lv) (hl : hs.length ≤ 1000) : IntsAt w 0 w.heap.size hv hs :=
  OwnInts.at_ ⟨⟨h.hrd, fun q hq => (h.hrd.lt q hq).2⟩, by omega⟩
theorem MAt.form {w : World} {M : Nat → Prop} {g n : Nat} {hs : List Int} {r : Rnd} {pv hv lv : Value} (h : MAt w M g n hs r pv hv lv) : ∃ A c, hv = .slice A hs.length c := by
  obtain ⟨A, c, e, _⟩ := OwnRow.form (w := w) (lo := 0) (hi := w.heap.size) ⟨h.hrd, fun q hq => (h.hrd.lt q hq).2⟩
  exact ⟨A, c, e⟩
theorem MAt.below {w w' : World} {M : Nat → Prop} {g n : Nat} {hs : List Int} {r : Rnd} {pv hv lv : Value} (h : MAt w M g n hs r pv hv lv) (b : Below w.heap.size w w') : MAt w' M g n hs r pv hv lv :=
  ⟨h.row.below b h.row.lt, h.in_, ((OwnRow.fr (w := w) (lo := 0) (hi := w.heap.size) ⟨h.hrd, fun q hq => (h.hrd.lt q hq).2⟩ (Fr.of_below b (fun _ => False)) (Nat.le_refl _) (fun _ _ _ h => h))).1, h.hM, h.parts.fr (Fr.of_below b (fun _ => False)) (Nat.le_refl _) (fun _ h => h.elim), h.led.fr (Fr.of_below b (fun _ => False)) (Nat.le_refl _) (fun _ h => h.elim), h.sz⟩
/-- One more is heard: the row has grown. -/
theorem MAt.more {w w1 w2 : World} {M : Nat → Prop} {g n : Nat} {hs : List Int} {r : Rnd} {pv hv lv hv' : Value} {x : Int} (h : MAt w M g n hs r pv hv lv) (b : Below w.heap.size w w1) (ho : w2.ownsRow 0 3 1 hv' (hs.length + 1) (Go.Proofs.YtnlncfjibbdimaaDoor.ints hs ++ [.int .i64 x])) (hg : w1.grownBy w2 hv.ownBlock) (hat : hv'.ownBlock = hv.ownBlock ∨ hv'.ownBlock = some w1.heap.size) :
    MAt (w2.setCell ⟨g, 23, none⟩ hv') (fun k => M k ∨ hv'.ownBlock = some k) g n (hs ++ [x]) r pv hv' lv ∧ Fr w.heap.size (fun k => k = g ∨ hv.ownBlock = some k) w (w2.setCell ⟨g, 23, none⟩ hv') := by
  have h1 := h.below b
  have hs1 := b.size
  have hgl := h.row.lt
  have hg1 := h1.row.lt
  have f : Fr w1.heap.size (fun k => hv.ownBlock = some k) w1 w2 := (Fr.refl w1.heap.size (fun k => hv.ownBlock = some k) w1).grown hg (Nat.le_refl _) (fun k hk => .inl hk)
  have hrow2 : Blk w2 g 204 (r.mcells n pv hv lv).toArray := h1.row.fr f hg1 (fun e => (h.hM g e).2 rfl)
  have hrow3 : Blk (w2.setCell ⟨g, 23, none⟩ hv') g 204 (r.mcells n pv hv' lv).toArray := hrow2.set_ 23 hv'
  have hv'g : ∀ q, hv'.ownBlock = some q → q ≠ g := fun q hq => by
    rcases hat with e | e
    · exact (h.hM q (e ▸ hq)).2
    · rw [e] at hq; injection hq with hq; omega
  have f3 : Fr w1.heap.size (fun k => k = g ∨ hv.ownBlock = some k) w1 (w2.setCell ⟨g, 23, none⟩ hv') := (f.mono (Nat.le_refl _) (fun _ _ h => .inr h)).setCell (p := ⟨g, 23, none⟩) (.inl (.inl rfl)) hv'
  have hS : ∀ k, (k = g ∨ hv.ownBlock = some k) → M k := fun k hk => by
    rcases hk with rfl | hk
    · exact h.in_
    · exact (h.hM k hk).1
  have hMM : ∀ m, M m ∨ hv'.ownBlock = some m → M m ∨ w1.heap.size ≤ m := fun m hm => by
    rcases hm with hm | hm
    · exact .inl hm
    · rcases hat with e | e
      · exact .inl (h.hM m (e ▸ hm)).1
      · rw [e] at hm; injection hm with hm; exact .inr (by omega)
  have hrd : (w2.setCell ⟨g, 23, none⟩ hv').ownsRow 0 3 1 hv' (hs.length + 1) (Go.Proofs.YtnlncfjibbdimaaDoor.ints hs ++ [.int .i64 x]) :=
    ownsRow_frK ho ((Fr.refl w2.heap.size (fun k => k = g) w2).setCell (p := ⟨g, 23, none⟩) (.inl rfl) hv') (Nat.le_refl _) (fun k hk e => hv'g k hk e)
  refine ⟨⟨hrow3, .inl h.in_, ?_, fun q hq => ⟨.inr hq, hv'g q hq⟩, (h1.parts.grow hMM).fr f3 (Nat.le_refl _) (fun k hk => .inl (hS k hk)), (h1.led.grow hMM).fr f3 (Nat.le_refl _) (fun k hk => .inl (hS k hk)), h.sz⟩, (Fr.of_below b _).trans (f3.mono hs1 (fun _ _ h => h))⟩
  have e2 : Go.Proofs.YtnlncfjibbdimaaDoor.ints (hs ++ [x]) = Go.Proofs.YtnlncfjibbdimaaDoor.ints hs ++ [.int .i64 x] := by simp [Go.Proofs.YtnlncfjibbdimaaDoor.ints]
  rw [List.length_append, List.length_singleton, e2]
  exact hrd

theorem MAt.st {w : World} {M : Nat → Prop} {g n : Nat} {hs : List Int} {r : Rnd} {pv hv lv : Value} (h : MAt w M g n hs r pv hv lv) (z : Int) : MAt (w.setCell ⟨g, 22, none⟩ (.int .i64 z)) M g n hs { r with stage := z } pv hv lv ∧ Fr w.heap.size (fun k => k = g) w (w.setCell ⟨g, 22, none⟩ (.int .i64 z)) := by
  have f : Fr w.heap.size (fun k => k = g) w (w.setCell ⟨g, 22, none⟩ (.int .i64 z)) := (Fr.refl w.heap.size (fun k => k = g) w).setCell (p := ⟨g, 22, none⟩) (.inl rfl) _
  exact ⟨⟨h.row.set_ 22 _, h.in_, ownsRow_frK h.hrd f (Nat.le_refl _) (fun k hk e => (h.hM k hk).2 e), h.hM, h.parts.fr f (Nat.le_refl _) (fun k hk => by rw [hk]; exact h.in_), h.led.fr f (Nat.le_refl _) (fun k hk => by rw [hk]; exact h.in_), h.sz⟩, f⟩
/-- What the document's Accepted comes to where the answer counts. -/
def RAcc13 (M : Nat → Prop) (g n : Nat) (hs : List Int) (r : Rnd) (pv hv lv : Value) (x : Int) (w : World) (e : Ending) (w' : World) : Prop :=
  e = .returned (.bool true) ∧ ∃ hv', MAt w' (fun k => M k ∨ hv'.ownBlock = some k) g n (hs ++ [x]) { r with stage := if 2 * ((hs.length : Nat) + 1 : Int) > n then 3 else r.stage } pv hv' lv ∧ Fr w.heap.size (fun k => k = g ∨ hv.ownBlock = some k) w w' ∧ (hv'.ownBlock = hv.ownBlock ∨ ∃ q, hv'.ownBlock = some q ∧ w.heap.size ≤ q)

set_option maxRecDepth 100000 in
set_option maxHeartbeats 3200000 in
theorem raccepted_no (w : World) (M : Nat → Prop) (g n : Nat) (hs : List Int) (r : Rnd) (pv hv lv : Value) (h : MAt w M g n hs r pv hv lv) (hl : hs.length ≤ 1000) (from_ br bn : Int) (hf : ¬ fitsM r n hs 2 from_ br bn) :
    Calls Tryd.prog 125 #[.pointer (some ⟨g, 0, none⟩), .int .i64 from_, .agg #[.int .i64 br, .int .i64 bn]] w fun e w' => e = .returned (.bool false) ∧ Below w.heap.size w w' := by
  have bA : Below w.heap.size w (w.alloc (.cells #[.int .i64 br, .int .i64 bn] 23)) := (Below.refl _ _).alloc (Nat.le_refl _) _
  have hX := Blk.new w 23 #[.int .i64 br, .int .i64 bn]
  have x0 := hX.cell 0
  have x1 := hX.cell 1
  have h1 := h.below bA
  have k155 := fits155 _ M g n hs r pv hv lv h1 (h1.ints hl) 2 from_ br bn false ⟨fun h => (by cases h), fun h => absurd h hf⟩
  have HK := Lib.hid (And.intro k155 bA)
  clear k155 bA h1 h hX hf
  go_enter Tryd.func125, Tryd.ntmps125
  go_wp2_with (first | (go_at_call 155; refine HK.out.1.mono ?_; rintro e w2 ⟨rfl, b2⟩; have H2 := Lib.hid b2; clear b2) | fail)
  go_ret
  exact ⟨rfl, HK.out.2.trans (H2.out.mono HK.out.2.size)⟩
end Go.Proofs.YtnlncfjibbdimaaDoor

namespace Go.Proofs.YtnlncfjibbdimaaDoor
open Go.RowKit
set_option linter.unusedSimpArgs false
set_option linter.unusedVariables false

set_option maxRecDepth 100000 in
set_option maxHeartbeats 3200000 in
theorem raccepted_yes (w : World) (M : Nat → Prop) (g n : Nat) (hs : List Int) (r : Rnd) (pv hv lv : Value) (h : MAt w M g n hs r pv hv lv) (hl : hs.length ≤ 1000) (from_ br bn : Int) (hf : fitsM r n hs 2 from_ br bn) :
    Calls Tryd.prog 125 #[.pointer (some ⟨g, 0, none⟩), .int .i64 from_, .agg #[.int .i64 br, .int .i64 bn]] w (RAcc13 M g n hs r pv hv lv from_ w) := by
  have bA : Below w.heap.size w (w.alloc (.cells #[.int .i64 br, .int .i64 bn] 23)) := (Below.refl _ _).alloc (Nat.le_refl _) _
  have hX := Blk.new w 23 #[.int .i64 br, .int .i64 bn]
  have x0 := hX.cell 0
  have x1 := hX.cell 1
  have h1 := h.below bA
  have k155 := fits155 _ M g n hs r pv hv lv h1 (h1.ints hl) 2 from_ br bn true ⟨fun _ => hf, fun _ => rfl⟩
  obtain ⟨i0, hi0, hz0, hz1, hz2⟩ := info_parts int_info
  obtain ⟨A, c, rfl⟩ := h.form
  have HK := Lib.hid (And.intro k155 (And.intro bA h))
  clear k155 bA h1 h hX hf
  go_enter Tryd.func125, Tryd.ntmps125
  go_upto_region 3 with (first | (go_at_call 155; refine HK.out.1.mono ?_; rintro e w2 ⟨rfl, b2⟩; have H2 := Lib.hid b2; clear b2) | fail)
  have b12 := HK.out.2.1.trans (H2.out.mono HK.out.2.1.size)
  have h2 := HK.out.2.2.below b12
  have c23 : w2.cell? ⟨g, 23, none⟩ = some (.slice A hs.length c) := h2.row.cell 23
  have H3 := Lib.hid (And.intro h2 (And.intro b12 hl))
  clear h2 b12 hl
  go_upto_region 4 with (first
    | (at_builtin
       refine wpList_append_any _ rfl (.tmp 16) (.tmp 18) 40 rfl 0 3 i0 _ 1 8 Tryd.underlying40 hi0 hz0 hz1 hz2 rfl (by omega) (.slice A hs.length c) hs.length (Go.Proofs.YtnlncfjibbdimaaDoor.ints hs) rfl ?_ 0 (w2.heap.size + 1) (some ⟨w2.heap.size, 0, none⟩) 1 1 [.int .i64 from_] rfl ?_ (by simp [Value.oneCell']) ?_ (by have := H3.out.2.2; omega) (Nat.zero_le _) ?_
       rotate_right
       intro v1 w1 hown1 hg1 hat1
       obtain ⟨A1, c1, hv1, _⟩ := (show OwnRow w1 0 w1.heap.size 3 1 v1 (hs.length + 1) (Go.Proofs.YtnlncfjibbdimaaDoor.ints hs ++ [.int .i64 from_]) from ⟨hown1, fun g hg => (hown1.lt g hg).2⟩).form
       subst hv1
       have q1 := H3.out.1.below ((Below.refl w2.heap.size w2).alloc (Nat.le_refl _) (.cells #[.int .i64 from_] 3))
       have qr := q1.row.fr ((Fr.refl _ (fun k => (Value.slice A hs.length c).ownBlock = some k) _).grown hg1 (Nat.le_refl _) (fun k hk => .inl hk)) q1.row.lt (fun e => (q1.hM g e).2 rfl)
       have q23 : w1.cell? ⟨g, 23, none⟩ = some (.slice A hs.length c) := qr.cell 23
       have qf := qr.frozen 23
       clear qr
       have HO := Lib.hid (And.intro hown1 (And.intro hg1 hat1))
       clear q1
       clear hown1 hg1 hat1)
    | fail)
  · obtain ⟨hM, hF⟩ := H3.out.1.more (x := from_) (w1 := w2.alloc (.cells #[.int .i64 from_] 3)) ((Below.refl w2.heap.size w2).alloc (Nat.le_refl _) _) HO.out.1 HO.out.2.1 HO.out.2.2
    have hF0 : Fr w.heap.size (fun k => k = g ∨ (Value.slice A hs.length c).ownBlock = some k) w _ := (Fr.of_below H3.out.2.1 _).trans (hF.mono H3.out.2.1.size (fun _ _ h => h))
    have hl := H3.out.2.2
    refine wp_letter (fun W => MAt W (fun k => M k ∨ (Value.slice A1 (hs.length + 1) c1).ownBlock = some k) g n (hs ++ [from_]) r pv (.slice A1 (hs.length + 1) c1) lv ∧ Fr w.heap.size (fun k => k = g ∨ (Value.slice A hs.length c).ownBlock = some k) w W) ⟨hM, hF0⟩ ?_
    clear hM hF hF0
    rintro W ⟨hM, hF⟩
    have e0 : ∀ d os, (Go.Sort.grow (redrawn W d) os).cell? ⟨g, 0, none⟩ = some (.int .i64 n) := fun d os => (hM.row.below (below_regrown W d os) hM.row.lt).cell 0
    have e23 : ∀ d os, (Go.Sort.grow (redrawn W d) os).cell? ⟨g, 23, none⟩ = some (.slice A1 (hs.length + 1) c1) := fun d os => (hM.row.below (below_regrown W d os) hM.row.lt).cell 23
    have hn := hM.sz
    have hat : (Value.slice A1 (hs.length + 1) c1).ownBlock = (Value.slice A hs.length c).ownBlock ∨ ∃ q, (Value.slice A1 (hs.length + 1) c1).ownBlock = some q ∧ w.heap.size ≤ q := HO.out.2.2.imp id (fun e => ⟨_, e, by have := H3.out.2.1.size; simp; omega⟩)
    have HN := Lib.hid (And.intro hM hF)
    have HAT := Lib.hid hat
    clear hat
    clear hM hF c23 q23 qf x0 x1
    try simp only [List.cons_append, List.nil_append, List.append_eq]
    refine wp_region_quiet_cheap (by kernel_rfl) (by kernel_rfl) (by kernel_rfl) (by kernel_rfl) ?_
    repeat (go_big_quiet_step (fail))
    refine wpQuiet_nil ?_
    intro _ hw'
    obtain ⟨⟨dq, osq⟩, hw''⟩ := hw'
    subst hw''
    have hgq := below_regrown W dq osq
    have hM2 := HN.out.1.below hgq
    have hF2 : Fr w.heap.size (fun k => k = g ∨ (Value.slice A hs.length c).ownBlock = some k) w (Go.Sort.grow (redrawn W dq) osq) := HN.out.2.trans (Fr.of_below (hgq.mono HN.out.2.size) _)
    have c22 := hM2.row.cell 22
    have f22 := hM2.row.frozen 22
    have hS := hM2.st 3
    have HS := Lib.hid (And.intro hM2 (And.intro hF2 hS))
    clear hM2 hF2 hS hgq
    simp only [Rnd.mcells] at c22
    by_cases hb : (n : Int) < 2 * ((hs.length : Nat) + 1 : Int)
    · go_wp2_with (fail)
      go_ret
      refine ⟨rfl, .slice A1 (hs.length + 1) c1, ?_, ?_⟩
      · rw [if_pos (show 2 * ((hs.length : Nat) + 1 : Int) > n from hb)]
        exact HS.out.2.2.1
      · exact ⟨HS.out.2.1.setCell (p := ⟨g, 22, none⟩) (.inl (.inl rfl)) _, HAT.out⟩
    · go_wp2_with (fail)
      go_ret
      refine ⟨rfl, .slice A1 (hs.length + 1) c1, ?_, HS.out.2.1, HAT.out⟩
      rw [if_neg (show ¬ 2 * ((hs.length : Nat) + 1 : Int) > n from by omega)]
      exact HS.out.1
  · have q1 := H3.out.1.below ((Below.refl w2.heap.size w2).alloc (Nat.le_refl _) (.cells #[.int .i64 from_] 3))
    exact q1.hrd
  · exact ⟨rfl, fun _ => ⟨_, rfl, Nat.zero_le _, Nat.lt_succ_self _, fun j u hu => by
      rw [Addr.add_mid]
      exact (Blk.new w2 3 #[.int .i64 from_]).range (cs := [.int .i64 from_]) j u hu⟩⟩
  · have := H3.out.2.2
    simp only [maxLen]
    omega
end Go.Proofs.YtnlncfjibbdimaaDoor

namespace Go.Proofs.YtnlncfjibbdimaaDoor
open Go.RowKit
set_option linter.unusedSimpArgs false
set_option linter.unusedVariables false

structure Tied (n : Nat) (f : Nat → Bool) (hs : List Int) : Prop where
  mem : ∀ j : Nat, j < n → (f j = true ↔ (j : Int) ∈ hs)
  len : hs.length = cnt n f

section
variable {n : Nat} {f : Nat → Bool} {hs : List Int} {r : Rnd} {j : Nat} {s from_ br bn ar an : Int} {l : List Cmd}
theorem Tied.nil_ (n : Nat) : Tied n (fun _ => false) [] := ⟨fun j _ => by simp, by simp [cnt_zero]⟩
theorem Tied.few (h : Tied n f hs) : hs.length ≤ n := by rw [h.len]; exact cnt_le _ _
theorem Tied.more (h : Tied n f hs) (hj : j < n) (hf : f j = false) : Tied n (upd f j true) (hs ++ [(j : Int)]) := by
  refine ⟨fun i hi => ?_, by rw [List.length_append, List.length_singleton, h.len, cnt_upd hj hf]⟩
  by_cases e : i = j
  · subst e; simp [upd_same]
  · rw [upd_other _ _ e, h.mem i hi, List.mem_append, List.mem_singleton]
    constructor
    · exact .inl
    · rintro (h | h)
      · exact h
      · exact absurd (by omega) e
theorem Tied.fits (h : Tied n f hs) : fitsR r n f s from_ br bn ↔ fitsM r n hs s from_ br bn := by
  unfold fitsR fitsM
  constructor
  · rintro ⟨h1, h2, j, rfl, hj, hf⟩
    exact ⟨h1, h2, by omega, by omega, fun hm => by rw [(h.mem j hj).2 hm] at hf; cases hf⟩
  · rintro ⟨h1, h2, h3, h4, h5⟩
    refine ⟨h1, h2, from_.toNat, by omega, by omega, ?_⟩
    rw [Bool.eq_false_iff]
    intro hf
    exact h5 (by have := (h.mem from_.toNat (by omega)).1 hf; rwa [show ((from_.toNat : Nat) : Int) = from_ by omega] at this)
theorem Tied.half_iff (h : Tied n f hs) (hj : j < n) (hf : f j = false) : half n ≤ (cnt n (upd f j true) : Nat) ↔ ¬ 2 * ((hs.length : Nat) + 1 : Int) ≤ n := by
  rw [cnt_upd hj hf, ← h.len]
  unfold half
  rw [if_neg (by omega)]
  omega
theorem Tied.miss (h : Tied n f hs) (s : Int) : missL s (hsF hs) n = missL s f n := by
  have e : missK (hsF hs) n = missK f n := by
    unfold missK
    congr 1
    apply List.filter_congr
    intro i hi
    have hi' := List.mem_range.1 hi
    unfold hsF
    have := h.mem i hi'
    cases hf : f i with
    | true => rw [decide_eq_true (this.1 hf)]
    | false => rw [decide_eq_false (fun hm => by rw [this.2 hm] at hf; cases hf)]
  unfold missL
  rw [e]

/-- Behind a promise that counts, at the document's round. -/
def Rnd.heardM (r : Rnd) (n : Nat) (hs : List Int) (ar an : Int) (l : List Cmd) : Rnd := if 2 * ((hs.length : Nat) + 1 : Int) ≤ n then r.newer ar an l else (r.newer ar an l).tell
def hsM (n : Nat) (hs : List Int) (x : Int) : List Int := if 2 * ((hs.length : Nat) + 1 : Int) ≤ n then hs ++ [x] else []
theorem Tied.heard (h : Tied n f hs) (hj : j < n) (hf : f j = false) : r.heardM n hs ar an l = r.promised n f j ar an l ∧ Tied n (promF n f j) (hsM n hs j) := by
  have hh := h.half_iff hj hf
  unfold Rnd.heardM Rnd.promised promF hsM
  by_cases hm : 2 * ((hs.length : Nat) + 1 : Int) ≤ n
  · rw [if_pos hm, if_neg (fun h => hh.1 h hm), if_pos hm, if_neg (fun h => hh.1 h hm)]
    exact ⟨rfl, h.more hj hf⟩
  · rw [if_neg hm, if_pos (hh.2 hm), if_neg hm, if_pos (hh.2 hm)]
    exact ⟨rfl, Tied.nil_ n⟩
theorem Tied.took (h : Tied n f hs) (hj : j < n) (hf : f j = false) (h2 : r.stage = 2) : ({ r with stage := if 2 * ((hs.length : Nat) + 1 : Int) > n then 3 else r.stage } : Rnd) = r.took n f j := by
  have hh := h.half_iff hj hf
  unfold Rnd.took
  rw [h2]
  by_cases hm : 2 * ((hs.length : Nat) + 1 : Int) > n
  · rw [if_pos hm, if_pos (hh.2 (by omega))]
  · rw [if_neg hm, if_neg (fun h => hh.1 h (by omega))]
end

section
variable {w w' : World} {M M' S : Nat → Prop} {B' g n : Nat} {hs : List Int} {r : Rnd} {pv hv lv : Value}
theorem MAt.fr (h : MAt w M g n hs r pv hv lv) (f : Fr B' S w w') (hB' : w.heap.size ≤ B') (hS : ∀ k, S k → M k) (hg : ¬ S g) (hh : ∀ q, hv.ownBlock = some q → ¬ S q) : MAt w' M g n hs r pv hv lv :=
  ⟨h.row.fr f (Nat.lt_of_lt_of_le h.row.lt hB') hg, h.in_, ownsRow_frK h.hrd f hB' hh, h.hM, h.parts.fr f hB' hS, h.led.fr f hB' hS, h.sz⟩
theorem MAt.grow (h : MAt w M g n hs r pv hv lv) (hM : ∀ m, M' m → M m ∨ w.heap.size ≤ m) (hM' : ∀ m, M m → M' m) : MAt w M' g n hs r pv hv lv :=
  ⟨h.row, hM' _ h.in_, h.hrd, fun q hq => ⟨hM' _ (h.hM q hq).1, (h.hM q hq).2⟩, h.parts.grow hM, h.led.grow hM, h.sz⟩
end
end Go.Proofs.YtnlncfjibbdimaaDoor

namespace Go.Proofs.YtnlncfjibbdimaaDoor
open Go.RowKit
set_option linter.unusedSimpArgs false
set_option linter.unusedVariables false

section
variable {w : World} {M : Nat → Prop} {g n : Nat} {hs : List Int} {r : Rnd} {pv hv lv lv' : Value} {l : List Cmd}
theorem MAt.row_fr {w' : World} {r' : Rnd} {hs' : List Int} {hv' : Value} (h : MAt w M g n hs r pv hv lv) (f : Fr w.heap.size (fun k => k = g) w w') (hrow : Blk w' g 204 (r'.mcells n pv hv' lv').toArray) (hc : r'.cmd = r.cmd)
    (hh : (hv' = hv ∧ hs' = hs) ∨ (hv' = .slice none 0 0 ∧ hs' = [])) (hl : LedP w' M lv' r'.led) : MAt w' M g n hs' r' pv hv' lv' := by
  refine ⟨hrow, h.in_, ?_, fun q hq => ?_, by rw [hc]; exact h.parts.fr f (Nat.le_refl _) (fun k hk => by rw [hk]; exact h.in_), hl, h.sz⟩
  · rcases hh with ⟨rfl, rfl⟩ | ⟨rfl, rfl⟩
    · exact ownsRow_frK h.hrd f (Nat.le_refl _) (fun k hk e => (h.hM k hk).2 e)
    · exact World.ownsRow_nil _ _ _ _
  · rcases hh with ⟨rfl, rfl⟩ | ⟨rfl, rfl⟩
    · exact h.hM q hq
    · simp [Value.ownBlock] at hq
theorem MAt.snew (h : MAt w M g n hs r pv hv lv) (hl : LedP w M lv' l) (ar an : Int) :
    MAt (((w.setCell ⟨g, 24, none⟩ (.int .i64 ar)).setCell ⟨g, 25, none⟩ (.int .i64 an)).setCell ⟨g, 26, none⟩ lv') M g n hs { r with nr := ar, nn := an, led := l } pv hv lv' ∧
    Fr w.heap.size (fun k => k = g) w (((w.setCell ⟨g, 24, none⟩ (.int .i64 ar)).setCell ⟨g, 25, none⟩ (.int .i64 an)).setCell ⟨g, 26, none⟩ lv') := by
  have f := (((Fr.refl w.heap.size (fun k => k = g) w).setCell (p := ⟨g, 24, none⟩) (.inl rfl) (.int .i64 ar)).setCell (p := ⟨g, 25, none⟩) (.inl rfl) (.int .i64 an)).setCell (p := ⟨g, 26, none⟩) (.inl rfl) lv'
  have hrow : Blk (((w.setCell ⟨g, 24, none⟩ (.int .i64 ar)).setCell ⟨g, 25, none⟩ (.int .i64 an)).setCell ⟨g, 26, none⟩ lv') g 204 (({ r with nr := ar, nn := an, led := l } : Rnd).mcells n pv hv lv').toArray := ((h.row.set_ 24 _).set_ 25 _).set_ 26 _
  exact ⟨h.row_fr (r' := { r with nr := ar, nn := an, led := l }) f hrow rfl (.inl ⟨rfl, rfl⟩) (hl.fr f (Nat.le_refl _) (fun k hk => by rw [hk]; exact h.in_)), f⟩
theorem MAt.clear_ (h : MAt w M g n hs r pv hv lv) :
    MAt ((w.setCell ⟨g, 23, none⟩ (.slice none 0 0)).setCell ⟨g, 22, none⟩ (.int .i64 2)) M g n [] { r with stage := 2 } pv (.slice none 0 0) lv ∧
    Fr w.heap.size (fun k => k = g) w ((w.setCell ⟨g, 23, none⟩ (.slice none 0 0)).setCell ⟨g, 22, none⟩ (.int .i64 2)) := by
  have f := ((Fr.refl w.heap.size (fun k => k = g) w).setCell (p := ⟨g, 23, none⟩) (.inl rfl) (.slice none 0 0)).setCell (p := ⟨g, 22, none⟩) (.inl rfl) (.int .i64 2)
  have hrow : Blk ((w.setCell ⟨g, 23, none⟩ (.slice none 0 0)).setCell ⟨g, 22, none⟩ (.int .i64 2)) g 204 (({ r with stage := 2 } : Rnd).mcells n pv (.slice none 0 0) lv).toArray := (h.row.set_ 23 _).set_ 22 _
  exact ⟨h.row_fr (r' := { r with stage := 2 }) f hrow rfl (.inr ⟨rfl, rfl⟩) (h.led.fr f (Nat.le_refl _) (fun k hk => by rw [hk]; exact h.in_)), f⟩
theorem MAt.sled (h : MAt w M g n hs r pv hv lv) (hl : LedP w M lv' l) :
    MAt (w.setCell ⟨g, 26, none⟩ lv') M g n hs { r with led := l } pv hv lv' ∧ Fr w.heap.size (fun k => k = g) w (w.setCell ⟨g, 26, none⟩ lv') := by
  have f := (Fr.refl w.heap.size (fun k => k = g) w).setCell (p := ⟨g, 26, none⟩) (.inl rfl) lv'
  have hrow : Blk (w.setCell ⟨g, 26, none⟩ lv') g 204 (({ r with led := l } : Rnd).mcells n pv hv lv').toArray := h.row.set_ 26 _
  exact ⟨h.row_fr (r' := { r with led := l }) f hrow rfl (.inl ⟨rfl, rfl⟩) (hl.fr f (Nat.le_refl _) (fun k hk => by rw [hk]; exact h.in_)), f⟩
/-- An interval for parts whose blocks do not change. -/
theorem IntsP.block {v : Value} {ys : List Int} (h : IntsP w M v ys) : ∃ pa pb, IntsAt w pa pb v ys ∧ pb ≤ w.heap.size ∧ ∀ m, M m → m < pa ∨ pb ≤ m := by
  obtain ⟨A, c, h1, h2, h3, h4, h5, h6⟩ := h
  rcases Nat.eq_zero_or_pos ys.length with h0 | h0
  · exact ⟨0, 0, ⟨A, c, h1, h2, h3, h4, h5, fun hn => absurd hn (by omega)⟩, Nat.zero_le _, fun m _ => .inr (Nat.zero_le _)⟩
  · obtain ⟨ad, e, k1, k2, k3⟩ := h6 h0
    refine ⟨ad.block, ad.block + 1, ⟨A, c, h1, h2, h3, h4, h5, fun _ => ⟨ad, e, Nat.le_refl _, Nat.lt_succ_self _, k3⟩⟩, k2, fun m hm => ?_⟩
    rcases Nat.lt_trichotomy m ad.block with h | h | h
    · exact .inl h
    · subst h; exact absurd hm k1
    · exact .inr h
theorem MAt.range (h : MAt w M g n hs r pv hv lv) : w.rangeAt g 1 (r.cmd.cells pv) := fun j v hv' => by
  have hj : j < 18 := by have := (List.getElem?_eq_some_iff.1 hv').1; rwa [Cmd.cells_length] at this
  have := h.row.cell (1 + j)
  rw [this]
  simp only [Rnd.mcells, List.getElem?_toArray]
  have e : 1 + j = j + 1 := by omega
  rw [e, List.getElem?_cons_succ, ← hv']
  simp only [Cmd.cells]
  rcases j with _ | _ | _ | _ | _ | _ | _ | _ | _ | _ | _ | _ | _ | _ | _ | _ | _ | _ | j <;> first | rfl | omega
end

/-- What a call that counts comes to. -/
def RGrown (M : Nat → Prop) (g n : Nat) (hs : List Int) (r : Rnd) (pv hv : Value) (hs' : List Int) (r' : Rnd) (w w' : World) : Prop :=
  ∃ M' hv' lv', MAt w' M' g n hs' r' pv hv' lv' ∧ Fr w.heap.size (fun k => k = g ∨ hv.ownBlock = some k) w w' ∧ (∀ k, M k → M' k) ∧ (∀ k, M' k → M k ∨ w.heap.size ≤ k) ∧ (∀ k, M' k → k < w'.heap.size) ∧ (∀ q, hv'.ownBlock = some q → hv.ownBlock = some q ∨ w.heap.size ≤ q)

theorem RAcc13.grown {M : Nat → Prop} {g n : Nat} {hs : List Int} {r : Rnd} {pv hv lv : Value} {x : Int} {w w' : World} {e : Ending} (h0 : MAt w M g n hs r pv hv lv) (hM : ∀ m, M m → m < w.heap.size) (h : RAcc13 M g n hs r pv hv lv x w e w') :
    e = .returned (.bool true) ∧ RGrown M g n hs r pv hv (hs ++ [x]) { r with stage := if 2 * ((hs.length : Nat) + 1 : Int) > n then 3 else r.stage } w w' := by
  obtain ⟨he, hv', h1, h2, h3⟩ := h
  have hq : ∀ q, hv'.ownBlock = some q → hv.ownBlock = some q ∨ w.heap.size ≤ q := fun q hq => by
    rcases h3 with h3 | ⟨q', e1, e2⟩
    · exact .inl (h3 ▸ hq)
    · rw [e1] at hq; injection hq with hq; exact .inr (by omega)
  refine ⟨he, _, hv', lv, h1, h2, fun k hk => .inl hk, fun k hk => ?_, fun k hk => ?_, hq⟩
  · rcases hk with hk | hk
    · exact .inl hk
    · exact (hq k hk).imp (fun e => (h0.hM k e).1) id
  · rcases hk with hk | hk
    · have := hM k hk; have := h2.size; omega
    · exact (h1.hrd.lt k hk).2

set_option maxRecDepth 100000 in
set_option maxHeartbeats 3200000 in
theorem rpromise_no (w : World) (M : Nat → Prop) (g n : Nat) (hs : List Int) (r : Rnd) (pv hv lv : Value) (h : MAt w M g n hs r pv hv lv) (hl : hs.length ≤ 1000) (from_ br bn ar an : Int) (lva : Value) (hf : ¬ fitsM r n hs 1 from_ br bn) :
    Calls Tryd.prog 124 #[.pointer (some ⟨g, 0, none⟩), .int .i64 from_, .agg #[.int .i64 br, .int .i64 bn], .agg #[.int .i64 ar, .int .i64 an], lva] w fun e w' => e = .returned (.bool false) ∧ Below w.heap.size w w' := by
  have bA : Below w.heap.size w ((w.alloc (.cells #[.int .i64 br, .int .i64 bn] 23)).alloc (.cells #[.int .i64 ar, .int .i64 an] 23)) := ((Below.refl _ _).alloc (Nat.le_refl _) _).alloc (by simp) _
  have hX := (Blk.new w 23 #[.int .i64 br, .int .i64 bn]).alloc (.cells #[.int .i64 ar, .int .i64 an] 23)
  have x0 := hX.cell 0
  have x1 := hX.cell 1
  have h1 := h.below bA
  have k155 := fits155 _ M g n hs r pv hv lv h1 (h1.ints hl) 1 from_ br bn false ⟨fun h => (by cases h), fun h => absurd h hf⟩
  have HK := Lib.hid (And.intro k155 bA)
  clear k155 bA h1 h hX hf
  go_enter Tryd.func124, Tryd.ntmps124
  go_wp2_with (first | (go_at_call 155; refine HK.out.1.mono ?_; rintro e w2 ⟨rfl, b2⟩; have H2 := Lib.hid b2; clear b2) | fail)
  go_ret
  exact ⟨rfl, HK.out.2.trans (H2.out.mono HK.out.2.size)⟩
set_option maxRecDepth 100000 in
set_option maxHeartbeats 12800000 in
theorem rpromise_yes (w : World) (M : Nat → Prop) (g n : Nat) (hs : List Int) (r : Rnd) (pv hv lv : Value) (h : MAt w M g n hs r pv hv lv) (hMl : ∀ m, M m → m < w.heap.size) (hl : hs.length ≤ 1000) (from_ br bn ar an : Int) (lo hi : Nat) (lva : Value) (l : List Cmd) (hL : LedAt w lo hi lva l) (hhi : hi ≤ w.heap.size) (hLM : ∀ m, M m → m < lo ∨ hi ≤ m) (hf : fitsM r n hs 1 from_ br bn) :
    Calls Tryd.prog 124 #[.pointer (some ⟨g, 0, none⟩), .int .i64 from_, .agg #[.int .i64 br, .int .i64 bn], .agg #[.int .i64 ar, .int .i64 an], lva] w fun e w' => e = .returned (.bool true) ∧ RGrown M g n hs r pv hv (hsM n hs from_) (r.heardM n hs ar an l) w w' := by
  obtain ⟨W, hW⟩ : ∃ W, W = (w.alloc (.cells #[.int .i64 br, .int .i64 bn] 23)).alloc (.cells #[.int .i64 ar, .int .i64 an] 23) := ⟨_, rfl⟩
  have bA : Below w.heap.size w W := by rw [hW]; exact ((Below.refl _ _).alloc (Nat.le_refl _) _).alloc (by simp) _
  have hX : Blk W w.heap.size 23 #[.int .i64 br, .int .i64 bn] := by rw [hW]; exact (Blk.new w 23 _).alloc _
  have hY : Blk W (w.heap.size + 1) 23 #[.int .i64 ar, .int .i64 an] := by rw [hW]; exact Blk.new1 w _ 23 _
  have x0 := hX.cell 0
  have x1 := hX.cell 1
  have h1 := h.below bA
  have k155 := fits155 W M g n hs r pv hv lv h1 (h1.ints hl) 1 from_ br bn true ⟨fun _ => hf, fun _ => rfl⟩
  obtain ⟨i0, hi0, hz0, hz1, hz2⟩ := info_parts int_info
  obtain ⟨A, c, rfl⟩ := h.form
  have hLW : LedAt W lo hi lva l := hL.fr (Fr.of_below bA (fun _ => False)) hhi (fun _ _ _ h => h)
  obtain ⟨A0, cap, rfl, _⟩ := hL.form
  obtain ⟨nl, hnl⟩ : ∃ nl, nl = l.length := ⟨_, rfl⟩
  rw [← hnl] at hLW ⊢
  have HN := Lib.hid hnl
  have hgl := h.row.lt
  have HK := Lib.hid (And.intro k155 (And.intro bA (And.intro h (And.intro hLW (And.intro hY (And.intro (Nat.le_trans hhi bA.size) (And.intro hLM (And.intro hMl (And.intro hgl (And.intro hl hhi))))))))))
  clear k155 bA h1 h hX hf hLW hY hL hhi hLM hMl hgl hl hnl
  go_enter Tryd.func124, Tryd.ntmps124
  go_upto_region 1 with (fail)
  rw [← hW]
  clear hW
  go_upto_region 3 with (first | (go_at_call 155; refine HK.out.1.mono ?_; rintro e w2 ⟨rfl, b2⟩; have H2 := Lib.hid b2; clear b2) | fail)
  have b12 := HK.out.2.1.trans (H2.out.mono HK.out.2.1.size)
  have h2 := HK.out.2.2.1.below b12
  have c23 : w2.cell? ⟨g, 23, none⟩ = some (.slice A hs.length c) := h2.row.cell 23
  have H3 := Lib.hid (And.intro h2 (And.intro b12 HK.out.2.2.2.2.2.2.2.2.2.1))
  clear h2 b12
  obtain ⟨y, hy⟩ : ∃ y, y = w.heap.size + 1 := ⟨_, rfl⟩
  rw [← hy]
  have HY := Lib.hid hy
  clear hy x0 x1
  go_upto_region 4 with (first
    | (at_builtin
       refine wpList_append_any _ rfl (.tmp 23) (.tmp 25) 40 rfl 0 3 i0 _ 1 8 Tryd.underlying40 hi0 hz0 hz1 hz2 rfl (by omega) (.slice A hs.length c) hs.length (Go.Proofs.YtnlncfjibbdimaaDoor.ints hs) rfl ?_ 0 (w2.heap.size + 1) (some ⟨w2.heap.size, 0, none⟩) 1 1 [.int .i64 from_] rfl ?_ (by simp [Value.oneCell']) ?_ (by have := H3.out.2.2; omega) (Nat.zero_le _) ?_
       rotate_right
       intro v1 w1 hown1 hg1 hat1
       obtain ⟨A1, c1, hv1, _⟩ := (show OwnRow w1 0 w1.heap.size 3 1 v1 (hs.length + 1) (Go.Proofs.YtnlncfjibbdimaaDoor.ints hs ++ [.int .i64 from_]) from ⟨hown1, fun g hg => (hown1.lt g hg).2⟩).form
       subst hv1
       have q1 := H3.out.1.below ((Below.refl w2.heap.size w2).alloc (Nat.le_refl _) (.cells #[.int .i64 from_] 3))
       have qr := q1.row.fr ((Fr.refl _ (fun k => (Value.slice A hs.length c).ownBlock = some k) _).grown hg1 (Nat.le_refl _) (fun k hk => .inl hk)) q1.row.lt (fun e => (q1.hM g e).2 rfl)
       have q23 : w1.cell? ⟨g, 23, none⟩ = some (.slice A hs.length c) := qr.cell 23
       have qf := qr.frozen 23
       clear qr
       have HO := Lib.hid (And.intro hown1 (And.intro hg1 hat1))
       clear q1
       clear hown1 hg1 hat1)
    | fail)
  · obtain ⟨hM, hF⟩ := H3.out.1.more (x := from_) (w1 := w2.alloc (.cells #[.int .i64 from_] 3)) ((Below.refl w2.heap.size w2).alloc (Nat.le_refl _) _) HO.out.1 HO.out.2.1 HO.out.2.2
    obtain ⟨hv1, hhv1⟩ : ∃ hv1, hv1 = Value.slice A1 (hs.length + 1) c1 := ⟨_, rfl⟩
    have hsz2 := H3.out.2.1.size
    have hvlt : ∀ q, (Value.slice A hs.length c).ownBlock = some q → q < w.heap.size := fun q hq => HK.out.2.2.2.2.2.2.2.1 q (HK.out.2.2.1.hM q hq).1
    have hat : ∀ q, hv1.ownBlock = some q → (Value.slice A hs.length c).ownBlock = some q ∨ w.heap.size ≤ q := fun q hq => by
      rw [hhv1] at hq
      rcases HO.out.2.2 with e | e
      · exact .inl (e ▸ hq)
      · rw [e] at hq; injection hq with hq; right; simp at hq; omega
    have hF0 : Fr w.heap.size (fun k => k = g ∨ (Value.slice A hs.length c).ownBlock = some k) w _ := (Fr.of_below H3.out.2.1 _).trans (hF.mono H3.out.2.1.size (fun _ _ h => h))
    have hyl : y < w2.heap.size := by have := HK.out.2.2.2.2.1.lt; have := H2.out.size; have := HY.out; omega
    have hyS : ¬ (y = g ∨ (Value.slice A hs.length c).ownBlock = some y) := fun e => by
      rcases e with e | e
      · have := HK.out.2.2.2.2.2.2.2.2.1; have := HY.out; omega
      · have := hvlt y e; have := HY.out; omega
    have Y2 : Blk w2 y 23 #[.int .i64 ar, .int .i64 an] := by rw [HY.out]; exact HK.out.2.2.2.2.1.below H2.out HK.out.2.2.2.2.1.lt
    have L2 : LedAt w2 lo hi (.slice A0 nl cap) l := HK.out.2.2.2.1.fr (Fr.of_below H2.out (fun _ => False)) HK.out.2.2.2.2.2.1 (fun _ _ _ h => h)
    have hhi2 : hi ≤ w2.heap.size := Nat.le_trans HK.out.2.2.2.2.2.1 H2.out.size
    have L3 := L2.fr hF hhi2 (fun k k1 k2 hk => by
      have hMk : M k := by
        rcases hk with rfl | hk
        · exact HK.out.2.2.1.in_
        · exact (HK.out.2.2.1.hM k hk).1
      have := HK.out.2.2.2.2.2.2.1 k hMk
      omega)
    obtain ⟨M1, hM1⟩ : ∃ M1 : Nat → Prop, M1 = fun k => M k ∨ hv1.ownBlock = some k := ⟨_, rfl⟩
    rw [← hhv1, ← hM1] at hM
    rw [← hhv1] at hF hF0 L3
    refine wp_letter (fun W => MAt W M1 g n (hs ++ [from_]) r pv hv1 lv ∧ Fr w.heap.size (fun k => k = g ∨ (Value.slice A hs.length c).ownBlock = some k) w W ∧ Blk W y 23 #[.int .i64 ar, .int .i64 an] ∧ LedAt W lo hi (.slice A0 nl cap) l) ⟨by rw [hhv1] at hM ⊢; exact hM, by rw [hhv1] at hF0; exact hF0, Y2.fr (by rw [hhv1] at hF; exact hF) hyl hyS, by rw [hhv1] at L3; exact L3⟩ ?_
    have HM1 := Lib.hid (And.intro hM1 (And.intro hhv1 (And.intro hat hvlt)))
    clear hM hF hF0 L2 L3 Y2 hyl hyS hM1 hhv1 hat hvlt c23 q23 qf
    rintro W ⟨hM, hF, hY, hL⟩
    obtain ⟨b, hb⟩ : ∃ b, b = ab ar an r.nr r.nn := ⟨_, rfl⟩
    have k24 : ∀ W, Calls Tryd.prog 24 #[.agg #[.int .i64 ar, .int .i64 an], .agg #[.int .i64 r.nr, .int .i64 r.nn]] W fun e w' => e = .returned (.bool b) ∧ Below W.heap.size W w' := fun W => by rw [hb]; exact rabove_any ar an r.nr r.nn W
    have cY : ∀ d os i, (Go.Sort.grow (redrawn W d) os).cell? ⟨y, i, none⟩ = (#[.int .i64 ar, .int .i64 an] : Array Value)[i]? := fun d os => (hY.below (below_regrown W d os) hY.lt).cell
    have e24 : ∀ d os, (Go.Sort.grow (redrawn W d) os).cell? ⟨g, 24, none⟩ = some (.int .i64 r.nr) := fun d os => (hM.row.below (below_regrown W d os) hM.row.lt).cell 24
    have e25 : ∀ d os, (Go.Sort.grow (redrawn W d) os).cell? ⟨g, 25, none⟩ = some (.int .i64 r.nn) := fun d os => (hM.row.below (below_regrown W d os) hM.row.lt).cell 25
    have hsz := hF.size
    have HW := Lib.hid (And.intro hM (And.intro hF (And.intro hY (And.intro hL (And.intro hb hsz)))))
    clear hM hF hY hL hb hsz hsz2
    try simp only [List.cons_append, List.nil_append, List.append_eq]
    refine wp_region_quiet_cheap (by kernel_rfl) (by kernel_rfl) (by kernel_rfl) (by kernel_rfl) ?_
    repeat (go_big_quiet_step (first | (with_reducible exact Calls.regrown_of (k24 _))))
    refine wpQuiet_nil ?_
    intro _ hw'
    obtain ⟨⟨dq, osq⟩, hw''⟩ := hw'
    subst hw''
    clear cY e24 e25 k24
    obtain ⟨w3, hw3⟩ : ∃ w3, w3 = Go.Sort.grow (redrawn W dq) osq := ⟨_, rfl⟩
    have b3 : Below W.heap.size W w3 := by rw [hw3]; exact below_regrown W dq osq
    rw [← hw3]
    clear hw3
    have M3 := HW.out.1.below b3
    have F3 : Fr w.heap.size (fun k => k = g ∨ (Value.slice A hs.length c).ownBlock = some k) w w3 := HW.out.2.1.trans (Fr.of_below (b3.mono HW.out.2.1.size) _)
    have Y3 := HW.out.2.2.1.below b3 HW.out.2.2.1.lt
    have hhi3 : hi ≤ W.heap.size := Nat.le_trans HK.out.2.2.2.2.2.2.2.2.2.2 HW.out.2.1.size
    have L3 := HW.out.2.2.2.1.fr (Fr.of_below b3 (fun _ => False)) hhi3 (fun _ _ _ h => h)
    have k42 : ∀ W', Below w3.heap.size w3 W' → Calls Tryd.prog 42 #[.slice A0 nl cap] W' (CopyPost W' l) := fun W' b => rcopy_any W' lo hi _ l (L3.fr (Fr.of_below b (fun _ => False)) (Nat.le_trans hhi3 b3.size) (fun _ _ _ h => h)) (Nat.le_trans hhi3 (Nat.le_trans b3.size b.size))
    have hM1lt : ∀ m, M1 m → m < w3.heap.size := fun m hm => by
      have e := HM1.out.1
      rw [e] at hm
      rcases hm with hm | hm
      · have := HK.out.2.2.2.2.2.2.2.1 m hm; have := F3.size; omega
      · exact (M3.hrd.lt m hm).2
    have H5 := Lib.hid (And.intro M3 (And.intro F3 (And.intro Y3 (And.intro k42 hM1lt))))
    clear M3 F3 Y3 L3 k42 hhi3 hM1lt b3
    go_upto_if 34 with (fail)
    go_cut [10] (fun v10 wx => ∃ lv1, v10 = .bool false ∧ MAt wx M1 g n (hs ++ [from_]) (r.newer ar an l) pv hv1 lv1 ∧ Fr w.heap.size (fun k => k = g ∨ (Value.slice A hs.length c).ownBlock = some k) w wx ∧ (∀ m, M1 m → m < wx.heap.size))
    case first =>
      cases b with
      | false =>
        go_wp2_with (fail)
        go_meet
        have hnew : r.newer ar an l = r := by unfold Rnd.newer; rw [← HW.out.2.2.2.2.1]; rfl
        exact ⟨lv, rfl, by rw [hnew]; exact H5.out.1, H5.out.2.1, H5.out.2.2.2.2⟩
      | true =>
        have hnew : r.newer ar an l = { r with nr := ar, nn := an, led := l } := by unfold Rnd.newer; rw [← HW.out.2.2.2.2.1]; rfl
        have HA := Lib.hid hnew
        clear hnew
        go_upto_region 5 with (fail)
        have hBr : Below w3.heap.size w3 w3.drew := (Below.refl w3.heap.size w3).drew
        have hgw3 := H5.out.1.row.lt
        have hgy : ¬ y = g := fun e => by have := HY.out; have := HK.out.2.2.2.2.2.2.2.2.1; omega
        have hgy2 : ¬ g = y := fun e => hgy e.symm
        have hyB : y < w3.heap.size := H5.out.2.2.1.lt
        have cy : ∀ W', Below w3.heap.size w3 W' → W'.cell? ⟨y, 0, none⟩ = some (.int .i64 ar) ∧ W'.cell? ⟨y, 1, none⟩ = some (.int .i64 an) := fun W' b => ⟨(H5.out.2.2.1.below b H5.out.2.2.1.lt).cell 0, (H5.out.2.2.1.below b H5.out.2.2.1.lt).cell 1⟩
        obtain ⟨k1, k2⟩ := cy w3 (Below.refl _ _)
        have HYc := Lib.hid cy
        clear cy
        go_region_held3 (fun w' => w'.cell? ⟨y, 0, none⟩ = some (.int .i64 ar) ∧ w'.cell? ⟨y, 1, none⟩ = some (.int .i64 an)) (go_keep)
          (first
            | (go_at_call 42
               refine (H5.out.2.2.2.1 _ hBr).mono ?_
               rintro e u1 ⟨v1, rfl, o1, d1⟩
               have hb1 := hBr.trans (d1.mono hBr.size)
               obtain ⟨A2, c2, hv2, _⟩ := o1.at_.form
               rw [← HN.out] at hv2
               subst hv2
               have R1 := H5.out.1.below hb1
               obtain ⟨k1', k2'⟩ := HYc.out _ hb1
               have c24 : u1.cell? ⟨g, 24, none⟩ = some (.int .i64 r.nr) := R1.row.cell 24
               have c25 : u1.cell? ⟨g, 25, none⟩ = some (.int .i64 r.nn) := R1.row.cell 25
               have c26 : u1.cell? ⟨g, 26, none⟩ = some lv := R1.row.cell 26
               have f24 := R1.row.frozen 24
               have f25 := R1.row.frozen 25
               have f26 := R1.row.frozen 26
               have H6 := Lib.hid (And.intro (o1.wider hBr.size (Nat.le_refl _)) (And.intro hb1 R1))
               clear o1 d1 R1))
        clear c24 c25 c26 f24 f25 f26
        go_wp2_with (fail)
        go_meet
        have hsn := H6.out.2.2.snew (LedP.own H6.out.1 (Nat.le_refl _) H5.out.2.2.2.2) ar an
        have F2' : Fr w.heap.size (fun k => k = g ∨ (Value.slice A hs.length c).ownBlock = some k) w u1 := H5.out.2.1.trans (Fr.of_below (H6.out.2.1.mono H5.out.2.1.size) _)
        have F3' := F2'.trans (hsn.2.mono F2'.size (S' := fun k => k = g ∨ (Value.slice A hs.length c).ownBlock = some k) (fun _ _ h => .inl h))
        exact ⟨.slice A2 nl c2, rfl, by rw [HA.out]; exact hsn.1, F3', fun m hm => by have := H5.out.2.2.2.2 m hm; have := H6.out.2.1.size; have := hsn.2.size; omega⟩
    case rest =>
      obtain ⟨lv1, rfl, hM, hF, hMl⟩ := hcut
      clear H5 HW
      obtain ⟨r1, hr1⟩ : ∃ r1, r1 = r.newer ar an l := ⟨_, rfl⟩
      rw [← hr1] at hM
      have HR1 := Lib.hid hr1
      clear hr1
      have hl0 := H3.out.2.2
      have hhv := HM1.out.2.1
      have e0 : ∀ d os, (Go.Sort.grow (redrawn wc d) os).cell? ⟨g, 0, none⟩ = some (.int .i64 n) := fun d os => (hM.row.below (below_regrown wc d os) hM.row.lt).cell 0
      have e23 : ∀ d os, (Go.Sort.grow (redrawn wc d) os).cell? ⟨g, 23, none⟩ = some (.slice A1 (hs.length + 1) c1) := fun d os => by rw [← hhv]; exact (hM.row.below (below_regrown wc d os) hM.row.lt).cell 23
      have hn := hM.sz
      have HN1 := Lib.hid (And.intro hM (And.intro hF hMl))
      clear hM hF hMl hhv
      go_upto_region 6 with (fail)
      try simp only [List.cons_append, List.nil_append, List.append_eq]
      refine wp_region_quiet_cheap (by kernel_rfl) (by kernel_rfl) (by kernel_rfl) (by kernel_rfl) ?_
      repeat (go_big_quiet_step (fail))
      refine wpQuiet_nil ?_
      intro _ hw'
      obtain ⟨⟨dq2, osq2⟩, hw''⟩ := hw'
      subst hw''
      clear e0 e23
      obtain ⟨w4, hw4⟩ : ∃ w4, w4 = Go.Sort.grow (redrawn wc dq2) osq2 := ⟨_, rfl⟩
      have b4 : Below wc.heap.size wc w4 := by rw [hw4]; exact below_regrown wc dq2 osq2
      rw [← hw4]
      clear hw4
      have M4 := HN1.out.1.below b4
      have F4 : Fr w.heap.size (fun k => k = g ∨ (Value.slice A hs.length c).ownBlock = some k) w w4 := HN1.out.2.1.trans (Fr.of_below (b4.mono HN1.out.2.1.size) _)
      have hMl4 : ∀ m, M1 m → m < w4.heap.size := fun m hm => Nat.lt_of_lt_of_le (HN1.out.2.2 m hm) b4.size
      have hup : ∀ m, M m → M1 m := fun m hm => by rw [HM1.out.1]; exact .inl hm
      have hnew : ∀ m, M1 m → M m ∨ w.heap.size ≤ m := fun m hm => by
        have e := HM1.out.1
        rw [e] at hm
        rcases hm with hm | hm
        · exact .inl hm
        · exact (HM1.out.2.2.1 m hm).imp (fun e => (HK.out.2.2.1.hM m e).1) id
      have hgrow : ∀ (hs' : List Int) (r' : Rnd) (hv' lv' : Value) (w' : World), MAt w' M1 g n hs' r' pv hv' lv' → Fr w4.heap.size (fun k => k = g) w4 w' → (hv' = hv1 ∨ hv' = .slice none 0 0) → hsM n hs from_ = hs' → r.heardM n hs ar an l = r' → RGrown M g n hs r pv (.slice A hs.length c) (hsM n hs from_) (r.heardM n hs ar an l) w w' := fun hs' r' hv' lv' w' q1 q2 q3 q4 q5 =>
        ⟨M1, hv', lv', by rw [q4, q5]; exact q1, F4.trans (q2.mono F4.size (fun _ _ h => .inl h)), hup, hnew, fun k hk => Nat.lt_of_lt_of_le (hMl4 k hk) q2.size, fun q hq => by
          rcases q3 with rfl | rfl
          · exact HM1.out.2.2.1 q hq
          · simp [Value.ownBlock] at hq⟩
      by_cases hb2 : 2 * ((hs.length : Nat) + 1 : Int) ≤ n
      · have hret := hgrow _ _ _ _ w4 M4 (Fr.refl _ _ _) (.inl rfl) (by unfold hsM; rw [if_pos hb2]) (by unfold Rnd.heardM; rw [if_pos hb2, HR1.out])
        clear M4 F4 hMl4 hgrow hup hnew
        go_wp2_with (fail)
        go_ret
        exact ⟨rfl, hret⟩
      · have q4 : hsM n hs from_ = [] := by unfold hsM; rw [if_neg hb2]
        have q5 : r.heardM n hs ar an l = r1.tell := by unfold Rnd.heardM; rw [if_neg hb2, HR1.out]
        have HQ := Lib.hid (And.intro q4 q5)
        have c23 : w4.cell? ⟨g, 23, none⟩ = some hv1 := M4.row.cell 23
        have f23 := M4.row.frozen 23
        have c22 : w4.cell? ⟨g, 22, none⟩ = some (.int .i64 r1.stage) := M4.row.cell 22
        have f22 := M4.row.frozen 22
        have hcl := M4.clear_
        have hM1 := HM1.out.2.1
        rw [hM1] at c23
        clear hM1
        have HG := Lib.hid (And.intro hgrow hMl4)
        have hlt : ¬ 2 * ((hs.length : Nat) + 1 : Int) ≤ n := hb2
        clear M4 F4 hMl4 hgrow hup hnew hb2 q4 q5
        go_upto_region 9 with (fail)
        refine wp_letter (fun W5 => MAt W5 M1 g n [] { r1 with stage := 2 } pv (.slice none 0 0) lv1 ∧ Fr w4.heap.size (fun k => k = g) w4 W5) hcl ?_
        clear hcl c23 f23 c22 f22 hlt
        rintro W5 ⟨M5, F5⟩
        have c19 : W5.cell? ⟨g, 19, none⟩ = some (.bool r1.reads) := M5.row.cell 19
        cases hrd : r1.reads with
        | true =>
          rw [hrd] at c19
          have hret := HG.out.1 _ _ _ _ W5 M5 F5 (.inr rfl) HQ.out.1 (by rw [HQ.out.2]; unfold Rnd.tell; rw [if_pos hrd])
          clear M5 F5
          go_wp2_with (fail)
          go_ret
          exact ⟨rfl, hret⟩
        | false =>
          rw [hrd] at c19
          have hnr : ¬ r1.reads = true := by rw [hrd]; simp
          obtain ⟨A5, c5, hlv1, _⟩ := M5.led.at_.form
          obtain ⟨k5, hk5⟩ : ∃ k5, k5 = r1.led.length := ⟨_, rfl⟩
          have hlv1' : lv1 = .slice A5 k5 c5 := by rw [hk5]; exact hlv1
          subst hlv1'
          obtain ⟨pa, pb, hp, hpb, hpM⟩ := M5.parts.block
          have hMl5 : ∀ m, M1 m → m < W5.heap.size := fun m hm => Nat.lt_of_lt_of_le (HG.out.2 m hm) F5.size
          have hX : ∀ w', Below W5.heap.size W5 w' → (w'.cell? ⟨g, 26, none⟩ = some (.slice A5 k5 c5) ∧ w'.rangeAt g 1 (r1.cmd.cells pv)) := fun w' b => by
            have h' := M5.below b
            exact ⟨h'.row.cell 26, h'.range⟩
          have k156 : ∀ w', Below W5.heap.size W5 w' → Calls Tryd.prog 156 #[.slice A5 k5 c5, .agg (r1.cmd.cells pv).toArray] w' (RPut13 M1 (.slice A5 k5 c5) r1.led r1.cmd w') := fun w' b => by
            have h' := M5.below b
            exact rput13 w' M1 0 w'.heap.size pa pb _ r1.led h'.led.at_ (Nat.le_refl _) r1.cmd pv (hp.fr (Fr.of_below b (fun _ => False)) hpb (fun _ _ _ h => h)) (Nat.le_trans hpb b.size) hpM (fun m hm => Nat.lt_of_lt_of_le (hMl5 m hm) b.size)
          cases hput : putL r1.led r1.cmd with
          | some l2 =>
            have k156' : ∀ w', Below W5.heap.size W5 w' → Calls Tryd.prog 156 #[.slice A5 k5 c5, .agg (r1.cmd.cells pv).toArray] w' (fun e w1 => ∃ A6 k6 c6 z1, e = .returned (.tuple #[.slice A6 k6 c6, .int .i64 z1, .int .i64 0]) ∧ Below w'.heap.size w' w1 ∧ LedP w1 M1 (.slice A6 k6 c6) l2) := fun w' b => by
              refine (k156 w' b).mono ?_
              rintro e w1 ⟨v1, z1, q1, rfl, b1, ⟨l', hl', hq, ho⟩ | ⟨hl', hq⟩⟩
              · rw [hput] at hl'
                injection hl' with hl'
                subst hl' hq
                have hL6 : LedP w1 M1 v1 l2 := by
                  rcases ho with ⟨e1, e2⟩ | ho
                  · rw [e1, e2]
                    have b' := b.trans (b1.mono b.size)
                    exact (M5.below b').led
                  · exact ho
                obtain ⟨A6, c6, rfl, _⟩ := hL6.at_.form
                exact ⟨A6, _, c6, _, rfl, b1, hL6⟩
              · rw [hput] at hl'; cases hl'
            have HX := Lib.hid (And.intro hX (And.intro k156' (And.intro M5 F5)))
            clear hX k156 k156' M5 F5 hp hpb hpM hMl5 hlv1 hk5
            go_upto_region 10 with (fail)
            clear c19
            have hBr : Below W5.heap.size W5 W5.drew := (Below.refl W5.heap.size W5).drew
            go_cut [11, 13] (fun v11 v13 wx => ∃ A6 k6 c6, v11 = .slice A6 k6 c6 ∧ v13 = .int .i64 0 ∧ LedP wx M1 (.slice A6 k6 c6) l2 ∧ Below W5.heap.size W5 wx)
            case first =>
              refine wp_region_held_drew (S := fun w' => Below W5.heap.size W5 w') (by kernel_rfl) hBr (fun _ => ?_)
              refine wpAnyH_take (i := 0) (v := .pointer (some ⟨g, 0, none⟩)) rfl (by kernel_rfl) (by kernel_rfl) (by kernel_rfl) (fun _ _ _ h => h) (Or.inl ⟨by kernel_rfl, fun w' hSw => ?_⟩) hBr ?_
              · go_simp
              try simp only [List.getElem_toArray, List.getElem_cons_succ, List.getElem_cons_zero, Act.put, List.setIfInBounds_toArray, List.set_cons_zero, List.set_cons_succ]
              refine wpAnyH_take (i := 1) (v := .pointer (some ⟨g, 0, none⟩)) rfl (by kernel_rfl) (by kernel_rfl) (by kernel_rfl) (fun _ _ _ h => h) (Or.inl ⟨by kernel_rfl, fun w' hSw => ?_⟩) hBr ?_
              · go_simp
              try simp only [List.getElem_toArray, List.getElem_cons_succ, List.getElem_cons_zero, Act.put, List.setIfInBounds_toArray, List.set_cons_zero, List.set_cons_succ]
              refine wpAnyH_take (i := 2) (v := .pointer (some ⟨g, 26, none⟩)) rfl (by kernel_rfl) (by kernel_rfl) (by kernel_rfl) (fun _ _ _ h => h) (Or.inl ⟨by kernel_rfl, fun w' hSw => ?_⟩) hBr ?_
              · go_simp
              try simp only [List.getElem_toArray, List.getElem_cons_succ, List.getElem_cons_zero, Act.put, List.setIfInBounds_toArray, List.set_cons_zero, List.set_cons_succ]
              refine wpAnyH_take (i := 3) (v := .slice A5 k5 c5) rfl (by kernel_rfl) (by kernel_rfl) (by kernel_rfl) (fun _ _ _ h => h) (Or.inl ⟨by kernel_rfl, fun w' hSw => ?_⟩) hBr ?_
              · (have hcv := (HX.out.1 w' hSw).1; go_simp)
              try simp only [List.getElem_toArray, List.getElem_cons_succ, List.getElem_cons_zero, Act.put, List.setIfInBounds_toArray, List.set_cons_zero, List.set_cons_succ]
              refine wpAnyH_take (i := 4) (v := .pointer (some ⟨g, 0, none⟩)) rfl (by kernel_rfl) (by kernel_rfl) (by kernel_rfl) (fun _ _ _ h => h) (Or.inl ⟨by kernel_rfl, fun w' hSw => ?_⟩) hBr ?_
              · go_simp
              try simp only [List.getElem_toArray, List.getElem_cons_succ, List.getElem_cons_zero, Act.put, List.setIfInBounds_toArray, List.set_cons_zero, List.set_cons_succ]
              refine wpAnyH_take (i := 5) (v := .pointer (some ⟨g, 0, none⟩)) rfl (by kernel_rfl) (by kernel_rfl) (by kernel_rfl) (fun _ _ _ h => h) (Or.inl ⟨by kernel_rfl, fun w' hSw => ?_⟩) hBr ?_
              · go_simp
              try simp only [List.getElem_toArray, List.getElem_cons_succ, List.getElem_cons_zero, Act.put, List.setIfInBounds_toArray, List.set_cons_zero, List.set_cons_succ]
              refine wpAnyH_take (i := 6) (v := .pointer (some ⟨g, 1, none⟩)) rfl (by kernel_rfl) (by kernel_rfl) (by kernel_rfl) (fun _ _ _ h => h) (Or.inl ⟨by kernel_rfl, fun w' hSw => ?_⟩) hBr ?_
              · go_simp
              try simp only [List.getElem_toArray, List.getElem_cons_succ, List.getElem_cons_zero, Act.put, List.setIfInBounds_toArray, List.set_cons_zero, List.set_cons_succ]
              refine wpAnyH_take (i := 7) (v := .agg (r1.cmd.cells pv).toArray) rfl (by kernel_rfl) (by kernel_rfl) (by kernel_rfl) (fun _ _ _ h => h) ?_ hBr ?_
              · refine yieldsIf_load_mid ?_ 81 (.tmp 73) ?_ g 1 ?_ (r1.cmd.cells pv) _ (fun w' hw => (HX.out.1 w' hw).2) Tryd.underlying81 ?_ cmd_info
                · kernel_rfl
                · rfl
                · kernel_rfl
                · rfl
              try simp only [List.getElem_toArray, List.getElem_cons_succ, List.getElem_cons_zero, Act.put, List.setIfInBounds_toArray, List.set_cons_zero, List.set_cons_succ]
              refine wpAnyH_ready (rs := [8]) (by kernel_rfl) (by simp) ?_
              refine AllReadyH.cons rfl (fun K hK => ?_) ?_
              · go_simp
                refine (HX.out.2.1 _ hBr).mono ?_
                rintro e u1 ⟨A6, k6, c6, z1, rfl, d1, o1⟩
                have H7 := Lib.hid o1
                clear o1
                have hb1 := hBr.trans (d1.mono hBr.size)
                refine Shut.out hK _ _ hb1 (fun _ => ?_)
                clear hK K
                refine wpAnyH_take (i := 9) (v := .tuple #[.slice A6 k6 c6, .int .i64 z1, .int .i64 0]) rfl (by kernel_rfl) (by kernel_rfl) (by kernel_rfl) (fun _ _ _ h => h) (Or.inl ⟨by kernel_rfl, fun w' hSw => ?_⟩) hb1 ?_
                · go_simp
                try simp only [List.getElem_toArray, List.getElem_cons_succ, List.getElem_cons_zero, Act.put, List.setIfInBounds_toArray, List.set_cons_zero, List.set_cons_succ]
                refine wpAnyH_take (i := 10) (v := .slice A6 k6 c6) rfl (by kernel_rfl) (by kernel_rfl) (by kernel_rfl) (fun _ _ _ h => h) (Or.inl ⟨by kernel_rfl, fun w' hSw => ?_⟩) hb1 ?_
                · go_simp
                try simp only [List.getElem_toArray, List.getElem_cons_succ, List.getElem_cons_zero, Act.put, List.setIfInBounds_toArray, List.set_cons_zero, List.set_cons_succ]
                refine wpAnyH_take (i := 11) (v := .int .i64 z1) rfl (by kernel_rfl) (by kernel_rfl) (by kernel_rfl) (fun _ _ _ h => h) (Or.inl ⟨by kernel_rfl, fun w' hSw => ?_⟩) hb1 ?_
                · go_simp
                try simp only [List.getElem_toArray, List.getElem_cons_succ, List.getElem_cons_zero, Act.put, List.setIfInBounds_toArray, List.set_cons_zero, List.set_cons_succ]
                refine wpAnyH_take (i := 12) (v := .int .i64 0) rfl (by kernel_rfl) (by kernel_rfl) (by kernel_rfl) (fun _ _ _ h => h) (Or.inl ⟨by kernel_rfl, fun w' hSw => ?_⟩) hb1 ?_
                · go_simp
                try simp only [List.getElem_toArray, List.getElem_cons_succ, List.getElem_cons_zero, Act.put, List.setIfInBounds_toArray, List.set_cons_zero, List.set_cons_succ]
                refine wpAnyH_take (i := 13) (v := .slice A6 k6 c6) rfl (by kernel_rfl) (by kernel_rfl) (by kernel_rfl) (fun _ _ _ h => h) (Or.inl ⟨by kernel_rfl, fun w' hSw => ?_⟩) hb1 ?_
                · go_simp
                try simp only [List.getElem_toArray, List.getElem_cons_succ, List.getElem_cons_zero, Act.put, List.setIfInBounds_toArray, List.set_cons_zero, List.set_cons_succ]
                refine wpAnyH_take (i := 14) (v := .int .i64 z1) rfl (by kernel_rfl) (by kernel_rfl) (by kernel_rfl) (fun _ _ _ h => h) (Or.inl ⟨by kernel_rfl, fun w' hSw => ?_⟩) hb1 ?_
                · go_simp
                try simp only [List.getElem_toArray, List.getElem_cons_succ, List.getElem_cons_zero, Act.put, List.setIfInBounds_toArray, List.set_cons_zero, List.set_cons_succ]
                refine wpAnyH_take (i := 15) (v := .int .i64 0) rfl (by kernel_rfl) (by kernel_rfl) (by kernel_rfl) (fun _ _ _ h => h) (Or.inl ⟨by kernel_rfl, fun w' hSw => ?_⟩) hb1 ?_
                · go_simp
                try simp only [List.getElem_toArray, List.getElem_cons_succ, List.getElem_cons_zero, Act.put, List.setIfInBounds_toArray, List.set_cons_zero, List.set_cons_succ]
                refine wpAnyH_done (by kernel_rfl) ?_ _
                go_wp2_with (fail)
                go_meet
                exact ⟨_, _, _, rfl, rfl, H7.out, hb1⟩
              exact AllReadyH.nil
            case rest =>
              obtain ⟨A6, k6, c6, rfl, rfl, o1, b1⟩ := hcut
              have M6 := HX.out.2.2.1.below b1
              have c26 : wc.cell? ⟨g, 26, none⟩ = some (.slice A5 k5 c5) := M6.row.cell 26
              have f26 := M6.row.frozen 26
              have hsl := M6.sled o1
              have hret := HG.out.1 _ _ _ _ _ hsl.1 (HX.out.2.2.2.trans ((Fr.of_below (b1.mono HX.out.2.2.2.size) _).trans (hsl.2.mono (Nat.le_trans HX.out.2.2.2.size b1.size) (fun _ _ h => h)))) (.inr rfl) HQ.out.1 (by rw [HQ.out.2]; unfold Rnd.tell; rw [if_neg hnr, hput])
              clear hsl M6 o1 b1 hnr
              go_wp2_with (fail)
              go_ret
              exact ⟨rfl, hret⟩
          | none =>
            have k156' : ∀ w', Below W5.heap.size W5 w' → Calls Tryd.prog 156 #[.slice A5 k5 c5, .agg (r1.cmd.cells pv).toArray] w' (fun e w1 => ∃ v6 z1, e = .returned (.tuple #[v6, .int .i64 z1, .int .i64 10]) ∧ Below w'.heap.size w' w1) := fun w' b => by
              refine (k156 w' b).mono ?_
              rintro e w1 ⟨v1, z1, q1, rfl, b1, ⟨l', hl', hq, ho⟩ | ⟨hl', hq⟩⟩
              · rw [hput] at hl'; cases hl'
              · subst hq
                exact ⟨v1, z1, rfl, b1⟩
            have HX := Lib.hid (And.intro hX (And.intro k156' (And.intro M5 F5)))
            clear hX k156 k156' M5 F5 hp hpb hpM hMl5 hlv1 hk5
            go_upto_region 10 with (fail)
            clear c19
            have hBr : Below W5.heap.size W5 W5.drew := (Below.refl W5.heap.size W5).drew
            go_cut [13] (fun v13 wx => v13 = .int .i64 10 ∧ Below W5.heap.size W5 wx)
            case first =>
              refine wp_region_held_drew (S := fun w' => Below W5.heap.size W5 w') (by kernel_rfl) hBr (fun _ => ?_)
              refine wpAnyH_take (i := 0) (v := .pointer (some ⟨g, 0, none⟩)) rfl (by kernel_rfl) (by kernel_rfl) (by kernel_rfl) (fun _ _ _ h => h) (Or.inl ⟨by kernel_rfl, fun w' hSw => ?_⟩) hBr ?_
              · go_simp
              try simp only [List.getElem_toArray, List.getElem_cons_succ, List.getElem_cons_zero, Act.put, List.setIfInBounds_toArray, List.set_cons_zero, List.set_cons_succ]
              refine wpAnyH_take (i := 1) (v := .pointer (some ⟨g, 0, none⟩)) rfl (by kernel_rfl) (by kernel_rfl) (by kernel_rfl) (fun _ _ _ h => h) (Or.inl ⟨by kernel_rfl, fun w' hSw => ?_⟩) hBr ?_
              · go_simp
              try simp only [List.getElem_toArray, List.getElem_cons_succ, List.getElem_cons_zero, Act.put, List.setIfInBounds_toArray, List.set_cons_zero, List.set_cons_succ]
              refine wpAnyH_take (i := 2) (v := .pointer (some ⟨g, 26, none⟩)) rfl (by kernel_rfl) (by kernel_rfl) (by kernel_rfl) (fun _ _ _ h => h) (Or.inl ⟨by kernel_rfl, fun w' hSw => ?_⟩) hBr ?_
              · go_simp
              try simp only [List.getElem_toArray, List.getElem_cons_succ, List.getElem_cons_zero, Act.put, List.setIfInBounds_toArray, List.set_cons_zero, List.set_cons_succ]
              refine wpAnyH_take (i := 3) (v := .slice A5 k5 c5) rfl (by kernel_rfl) (by kernel_rfl) (by kernel_rfl) (fun _ _ _ h => h) (Or.inl ⟨by kernel_rfl, fun w' hSw => ?_⟩) hBr ?_
              · (have hcv := (HX.out.1 w' hSw).1; go_simp)
              try simp only [List.getElem_toArray, List.getElem_cons_succ, List.getElem_cons_zero, Act.put, List.setIfInBounds_toArray, List.set_cons_zero, List.set_cons_succ]
              refine wpAnyH_take (i := 4) (v := .pointer (some ⟨g, 0, none⟩)) rfl (by kernel_rfl) (by kernel_rfl) (by kernel_rfl) (fun _ _ _ h => h) (Or.inl ⟨by kernel_rfl, fun w' hSw => ?_⟩) hBr ?_
              · go_simp
              try simp only [List.getElem_toArray, List.getElem_cons_succ, List.getElem_cons_zero, Act.put, List.setIfInBounds_toArray, List.set_cons_zero, List.set_cons_succ]
              refine wpAnyH_take (i := 5) (v := .pointer (some ⟨g, 0, none⟩)) rfl (by kernel_rfl) (by kernel_rfl) (by kernel_rfl) (fun _ _ _ h => h) (Or.inl ⟨by kernel_rfl, fun w' hSw => ?_⟩) hBr ?_
              · go_simp
              try simp only [List.getElem_toArray, List.getElem_cons_succ, List.getElem_cons_zero, Act.put, List.setIfInBounds_toArray, List.set_cons_zero, List.set_cons_succ]
              refine wpAnyH_take (i := 6) (v := .pointer (some ⟨g, 1, none⟩)) rfl (by kernel_rfl) (by kernel_rfl) (by kernel_rfl) (fun _ _ _ h => h) (Or.inl ⟨by kernel_rfl, fun w' hSw => ?_⟩) hBr ?_
              · go_simp
              try simp only [List.getElem_toArray, List.getElem_cons_succ, List.getElem_cons_zero, Act.put, List.setIfInBounds_toArray, List.set_cons_zero, List.set_cons_succ]
              refine wpAnyH_take (i := 7) (v := .agg (r1.cmd.cells pv).toArray) rfl (by kernel_rfl) (by kernel_rfl) (by kernel_rfl) (fun _ _ _ h => h) ?_ hBr ?_
              · refine yieldsIf_load_mid ?_ 81 (.tmp 73) ?_ g 1 ?_ (r1.cmd.cells pv) _ (fun w' hw => (HX.out.1 w' hw).2) Tryd.underlying81 ?_ cmd_info
                · kernel_rfl
                · rfl
                · kernel_rfl
                · rfl
              try simp only [List.getElem_toArray, List.getElem_cons_succ, List.getElem_cons_zero, Act.put, List.setIfInBounds_toArray, List.set_cons_zero, List.set_cons_succ]
              refine wpAnyH_ready (rs := [8]) (by kernel_rfl) (by simp) ?_
              refine AllReadyH.cons rfl (fun K hK => ?_) ?_
              · go_simp
                refine (HX.out.2.1 _ hBr).mono ?_
                rintro e u1 ⟨v6, z1, rfl, d1⟩
                have hb1 := hBr.trans (d1.mono hBr.size)
                refine Shut.out hK _ _ hb1 (fun _ => ?_)
                clear hK K
                refine wpAnyH_take (i := 9) (v := .tuple #[v6, .int .i64 z1, .int .i64 10]) rfl (by kernel_rfl) (by kernel_rfl) (by kernel_rfl) (fun _ _ _ h => h) (Or.inl ⟨by kernel_rfl, fun w' hSw => ?_⟩) hb1 ?_
                · go_simp
                try simp only [List.getElem_toArray, List.getElem_cons_succ, List.getElem_cons_zero, Act.put, List.setIfInBounds_toArray, List.set_cons_zero, List.set_cons_succ]
                refine wpAnyH_take (i := 10) (v := v6) rfl (by kernel_rfl) (by kernel_rfl) (by kernel_rfl) (fun _ _ _ h => h) (Or.inl ⟨by kernel_rfl, fun w' hSw => ?_⟩) hb1 ?_
                · go_simp
                try simp only [List.getElem_toArray, List.getElem_cons_succ, List.getElem_cons_zero, Act.put, List.setIfInBounds_toArray, List.set_cons_zero, List.set_cons_succ]
                refine wpAnyH_take (i := 11) (v := .int .i64 z1) rfl (by kernel_rfl) (by kernel_rfl) (by kernel_rfl) (fun _ _ _ h => h) (Or.inl ⟨by kernel_rfl, fun w' hSw => ?_⟩) hb1 ?_
                · go_simp
                try simp only [List.getElem_toArray, List.getElem_cons_succ, List.getElem_cons_zero, Act.put, List.setIfInBounds_toArray, List.set_cons_zero, List.set_cons_succ]
                refine wpAnyH_take (i := 12) (v := .int .i64 10) rfl (by kernel_rfl) (by kernel_rfl) (by kernel_rfl) (fun _ _ _ h => h) (Or.inl ⟨by kernel_rfl, fun w' hSw => ?_⟩) hb1 ?_
                · go_simp
                try simp only [List.getElem_toArray, List.getElem_cons_succ, List.getElem_cons_zero, Act.put, List.setIfInBounds_toArray, List.set_cons_zero, List.set_cons_succ]
                refine wpAnyH_take (i := 13) (v := v6) rfl (by kernel_rfl) (by kernel_rfl) (by kernel_rfl) (fun _ _ _ h => h) (Or.inl ⟨by kernel_rfl, fun w' hSw => ?_⟩) hb1 ?_
                · go_simp
                try simp only [List.getElem_toArray, List.getElem_cons_succ, List.getElem_cons_zero, Act.put, List.setIfInBounds_toArray, List.set_cons_zero, List.set_cons_succ]
                refine wpAnyH_take (i := 14) (v := .int .i64 z1) rfl (by kernel_rfl) (by kernel_rfl) (by kernel_rfl) (fun _ _ _ h => h) (Or.inl ⟨by kernel_rfl, fun w' hSw => ?_⟩) hb1 ?_
                · go_simp
                try simp only [List.getElem_toArray, List.getElem_cons_succ, List.getElem_cons_zero, Act.put, List.setIfInBounds_toArray, List.set_cons_zero, List.set_cons_succ]
                refine wpAnyH_take (i := 15) (v := .int .i64 10) rfl (by kernel_rfl) (by kernel_rfl) (by kernel_rfl) (fun _ _ _ h => h) (Or.inl ⟨by kernel_rfl, fun w' hSw => ?_⟩) hb1 ?_
                · go_simp
                try simp only [List.getElem_toArray, List.getElem_cons_succ, List.getElem_cons_zero, Act.put, List.setIfInBounds_toArray, List.set_cons_zero, List.set_cons_succ]
                refine wpAnyH_done (by kernel_rfl) ?_ _
                go_wp2_with (fail)
                go_meet
                exact ⟨rfl, hb1⟩
              exact AllReadyH.nil
            case rest =>
              obtain ⟨rfl, b1⟩ := hcut
              have M6 := HX.out.2.2.1.below b1
              have c22 : wc.cell? ⟨g, 22, none⟩ = some (.int .i64 2) := M6.row.cell 22
              have f22 := M6.row.frozen 22
              have hsl := M6.st 4
              have hret := HG.out.1 _ _ _ _ _ hsl.1 (HX.out.2.2.2.trans ((Fr.of_below (b1.mono HX.out.2.2.2.size) _).trans (hsl.2.mono (Nat.le_trans HX.out.2.2.2.size b1.size) (fun _ _ h => h)))) (.inr rfl) HQ.out.1 (by rw [HQ.out.2]; unfold Rnd.tell; rw [if_neg hnr, hput])
              clear hsl M6 b1 hnr
              go_wp2_with (fail)
              go_ret
              exact ⟨rfl, hret⟩
  · have q1 := H3.out.1.below ((Below.refl w2.heap.size w2).alloc (Nat.le_refl _) (.cells #[.int .i64 from_] 3))
    exact q1.hrd
  · exact ⟨rfl, fun _ => ⟨_, rfl, Nat.zero_le _, Nat.lt_succ_self _, fun j u hu => by
      rw [Addr.add_mid]
      exact (Blk.new w2 3 #[.int .i64 from_]).range (cs := [.int .i64 from_]) j u hu⟩⟩
  · have := H3.out.2.2
    simp only [maxLen]
    omega
end Go.Proofs.YtnlncfjibbdimaaDoor
