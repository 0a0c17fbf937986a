/-
  The walks that copy: slices.Clone of ints, copied of ballot.
-/
import Derived.Test.YtnlncfjibbdimaaDoorLaws
namespace Go.Proofs.YtnlncfjibbdimaaDoor
open Go.RowKit
set_option linter.unusedSimpArgs false
set_option linter.unusedVariables false


def ClonePost (w : World) (xs : List Int) (e : Ending) (w' : World) : Prop :=
  ∃ v, e = .returned v ∧ OwnInts w' w.heap.size w'.heap.size v xs ∧ Below w.heap.size w w'

set_option maxHeartbeats 400000 in
theorem clone_ints (w : World) (lo hi : Nat) (v : Value) (xs : List Int) (h : IntsAt w lo hi v xs) (hhi : hi ≤ w.heap.size) :
    Calls Tryd.prog 115 #[v] w (ClonePost w xs) := by
  obtain ⟨A, c, rfl, hl, hc, hb, hr⟩ := h
  obtain ⟨i0, hi0, hz0, hz1, hz2⟩ := info_parts int_info
  have H := Lib.hid hl
  have HC := Lib.hid hc
  clear hl hc
  cases A with
  | none =>
    have h0 : xs = [] := by
      rcases Nat.eq_zero_or_pos xs.length with h0 | h0
      · exact List.eq_nil_of_length_eq_zero h0
      · obtain ⟨ad, hn, _⟩ := hr.2 h0
        cases hn
    subst h0
    have hn := fun w => Lib.run_eql_slice_nil (P := Tryd.prog) w 40 3 none 0 c 0 0 Tryd.underlying40
    go_enter Tryd.func115, Tryd.ntmps115
    go_wp2
    go_ret
    exact ⟨_, rfl, ⟨⟨World.ownsRow_nil _ _ _ _, fun g hg => by simp [Value.ownBlock] at hg⟩, by simp⟩, Below.refl _ _⟩
  | some ad =>
    have hn := fun w => Lib.run_eql_slice_nil (P := Tryd.prog) w 40 3 (some ad) xs.length c 0 0 Tryd.underlying40
    go_enter Tryd.func115, Tryd.ntmps115
    go_wp2_with (at_builtin
                 refine wpList_append_any _ rfl (.tmp 5) (.tmp 6) _ rfl w.heap.size 3 i0 _ 1 8 Tryd.underlying40 hi0 hz0 hz1 hz2 rfl (by omega) (.slice (some ⟨w.heap.size, 0, none⟩) 0 0) 0 [] rfl
                   ?_ lo hi (some ad) xs.length c (ints xs) rfl ?_ (ints_oneCell _) ?_ (by omega) (by simp) ?_
                 rotate_right
                 intro v1 w1 hown1 hg1 hat1)
    · have hb0 : Below w.heap.size w (w.alloc (.cells #[] 3)) := (Below.refl _ _).alloc (Nat.le_refl _) _
      go_ret
      refine ⟨v1, rfl, ⟨⟨by simpa using hown1, fun g hg => (hown1.lt g hg).2⟩, hb⟩, ?_⟩
      exact hb0.grown hg1 (by simp) (fun k hk => by simp [Value.ownBlock] at hk; omega)
    · exact World.ownsRow_made w #[] 0 (Nat.le_refl _) (by simp [maxLen]) (by simp)
    · exact hr.fr (Fr.of_below ((Below.refl _ _).alloc (Nat.le_refl _) _) (fun _ => False)) hhi (fun _ _ _ h => h)
    · have := H.out; have := HC.out; omega

theorem own_ne_of_type {w : World} {b1 b2 e1 e2 s1 s2 n1 n2 : Nat} {v1 v2 : Value} {xs1 xs2 : List Value} (h1 : w.ownsRow b1 e1 s1 v1 n1 xs1) (h2 : w.ownsRow b2 e2 s2 v2 n2 xs2) (hne : e1 ≠ e2) :
    v1.ownBlock = none ∨ v1.ownBlock ≠ v2.ownBlock := by
  rcases h1.2 with ⟨rfl, _⟩ | ⟨g, cap, cur, rfl, _, hh, _⟩
  · exact .inl rfl
  · right
    rcases h2.2 with ⟨rfl, _⟩ | ⟨g', cap', cur', rfl, _, hh', _⟩
    · simp [Value.ownBlock]
    · intro he
      obtain rfl : g = g' := by simpa [Value.ownBlock] using he
      rw [hh] at hh'
      injection hh' with hh'
      injection hh' with _ ht
      exact hne ht

theorem OwnInts.grown {w w' : World} {lo hi base size n : Nat} {v u : Value} {ys : List Int} {xs : List Value} {e : TypeId} (h : OwnInts w lo hi v ys) (hu : w.ownsRow base e size u n xs) (hne : 3 ≠ e) (hg : w.grownBy w' u.ownBlock) : OwnInts w' lo hi v ys :=
  ⟨⟨h.1.1.kept hg (own_ne_of_type h.1.1 hu hne), h.1.2⟩, h.2⟩
theorem OwnRows.grown {w w' : World} {lo hi base size n : Nat} {u : Value} {rows : List (List Value)} {l : List Cmd} {xs : List Value} {e : TypeId} (h : OwnRows w lo hi rows l) (hu : w.ownsRow base e size u n xs) (hne : 3 ≠ e) (hg : w.grownBy w' u.ownBlock) : OwnRows w' lo hi rows l :=
  ⟨h.1, fun i r c h1 h2 => by
    obtain ⟨pv, e1, e2⟩ := h.2 i r c h1 h2
    exact ⟨pv, e1, e2.grown hu hne hg⟩⟩
theorem OwnRows.snoc {w : World} {lo hi : Nat} {rows : List (List Value)} {l : List Cmd} {r : List Value} {c : Cmd} (h : OwnRows w lo hi rows l) (hc : OwnCmd w lo hi r c) : OwnRows w lo hi (rows ++ [r]) (l ++ [c]) := by
  refine ⟨by simp [h.1], fun i r' c' h1 h2 => ?_⟩
  rw [List.getElem?_append] at h1 h2
  by_cases hi' : i < rows.length
  · rw [if_pos hi'] at h1
    rw [if_pos (by have := h.1; omega)] at h2
    exact h.2 i r' c' h1 h2
  · rw [if_neg hi'] at h1
    rw [if_neg (by have := h.1; omega)] at h2
    have hl := h.1
    by_cases h0 : i = rows.length
    · subst h0
      rw [show rows.length - l.length = 0 by omega] at h2
      simp at h1 h2
      rw [← h1, ← h2]; exact hc
    · rw [List.getElem?_eq_none (by simp; omega)] at h1
      cases h1

/-- What the loop of 'copied' has done after k rounds. -/
def CopInv (w : World) (l : List Cmd) (wr : World) (out : Value) (k : Nat) : Prop :=
  ∃ rows, OwnRow wr w.heap.size wr.heap.size 81 18 out k rows.flatten ∧ OwnRows wr w.heap.size wr.heap.size rows (l.take k) ∧ Below w.heap.size w wr
def CopyPost (w : World) (l : List Cmd) (e : Ending) (w' : World) : Prop :=
  ∃ v, e = .returned v ∧ OwnLed w' w.heap.size w'.heap.size v l ∧ Below w.heap.size w w'

theorem CopInv.start {w : World} {l : List Cmd} : CopInv w l w (.slice none 0 0) 0 :=
  ⟨[], ⟨World.ownsRow_nil _ _ _ _, fun g hg => by simp [Value.ownBlock] at hg⟩, ⟨rfl, fun i r c h _ => by simp at h⟩, Below.refl _ _⟩
theorem CopInv.start_made {w : World} {l : List Cmd} : CopInv w l (w.alloc (.cells #[] 81)) (.slice (some ⟨w.heap.size, 0, none⟩) 0 0) 0 :=
  ⟨[], ⟨World.ownsRow_made w #[] 0 (Nat.le_refl _) (by simp [maxLen]) (by simp), fun g hg => by simp [Value.ownBlock] at hg; simp; omega⟩, ⟨rfl, fun i r c h _ => by simp at h⟩, (Below.refl _ _).alloc (Nat.le_refl _) _⟩
theorem CopInv.done {w wr : World} {l : List Cmd} {out : Value} (h : CopInv w l wr out l.length) (hb : l.length * 184 ≤ 140737488355328) : CopyPost w l (.returned out) wr := by
  obtain ⟨rows, h1, h2, h3⟩ := h
  rw [List.take_length] at h2
  exact ⟨out, rfl, ⟨rows, h1, hb, h2⟩, h3⟩
theorem CopInv.step {w wr w1 w3 : World} {l : List Cmd} {c : Cmd} {k : Nat} {u v1 v3 : Value} {rows : List (List Value)} {cs0 : Array Value}
    (hown : OwnRow wr w.heap.size wr.heap.size 81 18 u k rows.flatten) (hrows : OwnRows wr w.heap.size wr.heap.size rows (l.take k)) (hbel : Below w.heap.size w wr) (hc : l[k]? = some c)
    (hb1 : Below (wr.alloc (.cells cs0 81)).heap.size (wr.alloc (.cells cs0 81)) w1) (hv : OwnInts w1 (wr.alloc (.cells cs0 81)).heap.size w1.heap.size v1 c.parts)
    (hown3 : w3.ownsRow w.heap.size 81 18 v3 (k + 1) (rows.flatten ++ c.cells v1))
    (hownW : ((w1.setCell ⟨wr.heap.size, 15, none⟩ v1).alloc (.cells (c.cells v1).toArray 81)).ownsRow w.heap.size 81 18 u k rows.flatten)
    (hg3 : ((w1.setCell ⟨wr.heap.size, 15, none⟩ v1).alloc (.cells (c.cells v1).toArray 81)).grownBy w3 u.ownBlock) : CopInv w l w3 v3 (k + 1) := by
  have hs1 := hb1.size
  have hsw := hbel.size
  simp only [World.size_alloc] at hs1 hv hb1
  have hsz3 := hg3.size
  simp only [World.size_alloc, World.size_setCell] at hsz3
  have F : Fr wr.heap.size (fun _ => False) wr ((w1.setCell ⟨wr.heap.size, 15, none⟩ v1).alloc (.cells (c.cells v1).toArray 81)) :=
    ((Fr.of_below (((Below.refl wr.heap.size wr).alloc (Nat.le_refl _) (.cells cs0 81)).trans (hb1.mono (by omega))) (fun _ => False)).setCell (p := ⟨wr.heap.size, 15, none⟩) (.inr (Nat.le_refl _)) _).alloc (by simp; omega) _
  have hrW := (hrows.fr F (Nat.le_refl _) (fun _ _ _ h => h)).grown hownW (by decide) hg3
  have Fv : Fr w1.heap.size (· = wr.heap.size) w1 ((w1.setCell ⟨wr.heap.size, 15, none⟩ v1).alloc (.cells (c.cells v1).toArray 81)) :=
    ((Fr.refl w1.heap.size (· = wr.heap.size) w1).setCell (p := ⟨wr.heap.size, 15, none⟩) (.inl rfl) v1).alloc (by simp) _
  have hvW := (hv.fr Fv (Nat.le_refl _) (fun k h1 h2 h3 => by omega)).grown hownW (by decide) hg3
  refine ⟨rows ++ [c.cells v1], ⟨by simpa using hown3, fun g hg => (hown3.lt g hg).2⟩, ?_, ?_⟩
  · rw [List.take_add_one, hc]
    exact (hrW.wider (Nat.le_refl _) (by omega)).snoc ⟨v1, rfl, hvW.wider (by omega) (by omega)⟩
  · have hb := (F.mono hsw (fun _ _ h => h)).below (fun _ _ h => h)
    exact (hbel.trans hb).grown hg3 (by simp; omega) (fun g hg => (hownW.lt g hg).1)

theorem cmd_info' : ∃ i z, Tryd.prog.info? 81 = some i ∧ i.zero = some z ∧ i.size = 18 ∧ i.bytes = 184 ∧ z.cells.size = 18 := by
  have h : (Tryd.prog.info? 81).map (fun i => (i.zero.map (fun z => z.cells.size), i.size, i.bytes)) = some (some 18, 18, 184) := by kernel_rfl
  cases hi : Tryd.prog.info? 81 with
  | none => rw [hi] at h; simp at h
  | some i =>
    rw [hi] at h
    simp only [Option.map_some, Option.some.injEq, Prod.mk.injEq] at h
    cases hz : i.zero with
    | none => rw [hz] at h; simp at h
    | some z => rw [hz] at h; exact ⟨i, z, rfl, hz, h.2.1, h.2.2, by simpa using h.1⟩

set_option maxHeartbeats 400000 in
theorem copied_any (w : World) (lo hi : Nat) (v : Value) (l : List Cmd) (h : LedAt w lo hi v l) (hhi : hi ≤ w.heap.size) :
    Calls Tryd.prog 90 #[v] w (CopyPost w l) := by
  obtain ⟨A, cap, rfl, hl, hc, hb⟩ := h.form
  obtain ⟨n, hn⟩ : ∃ n, n = l.length := ⟨_, rfl⟩
  rw [← hn] at h hl hb ⊢
  have hm : n ≤ 9223372036854775807 := by simp only [maxLen] at hc; omega
  have HN := Lib.hid hn
  have HC := Lib.hid hc
  have HB := Lib.hid hb
  have HL := Lib.hid hl
  clear hn hl hc hb
  obtain ⟨i1, z1, hi1, hz11, hz12, hz13, hz14⟩ := cmd_info'
  go_enter Tryd.func90, Tryd.ntmps90
  go_wp2
  go_loopw [3, 8] (fun out i wr => ∃ k : Nat, k ≤ n ∧ i = .int .i64 k ∧ CopInv w l wr out k) (fun _ i _ => n - (intOf i).toNat)
  case atStart => exact ⟨0, Nat.zero_le _, rfl, CopInv.start⟩
  case round =>
    obtain ⟨k, hk, rfl, hinv⟩ := hrel
    by_cases hlt : k < n
    · obtain ⟨rows, hown, hrows, hbel⟩ := hinv
      have hk' : k < l.length := by rw [← HN.out]; exact hlt
      have hlk := List.getElem?_eq_getElem hk'
      obtain ⟨b, o, pv, rfl, hlo, hhi', hr0, hparts⟩ := h.range hlk
      obtain ⟨c, hc⟩ : ∃ c, c = l[k] := ⟨_, rfl⟩
      rw [← hc] at hr0 hparts hlk
      have HLK := Lib.hid hlk
      clear hc hlk
      have hrange : wr.rangeAt b (o + k * 18) (c.cells pv) := rangeAt_fr hr0 (Fr.of_below hbel (fun _ => False)) (by omega) (fun h => h)
      clear hr0
      obtain ⟨pA, pc, hpv⟩ : ∃ pA pc, pv = .slice pA c.parts.length pc := by
        obtain ⟨A1, c1, q1, _⟩ := hparts
        exact ⟨A1, c1, q1⟩
      subst hpv
      have h15 : ∀ u, (c.cells u)[15]? = some u := fun _ => rfl
      have hsw := hbel.size
      have hparts2 : IntsAt (wr.alloc (.cells (c.cells (.slice pA c.parts.length pc)).toArray 81)) lo hi (.slice pA c.parts.length pc) c.parts :=
        hparts.fr (Fr.of_below ((hbel.mono hhi).alloc (by omega) _) (fun _ => False)) (Nat.le_refl _) (fun _ _ _ h => h)
      go_wp2_with (first
        | ((with_reducible refine law_load 81 (.tmp 10) b (o + k * 18) (c.cells (.slice pA c.parts.length pc)) ?_ hrange Tryd.underlying81 ?_ ?_ ?_); rfl; rfl; exact cmd_info)
        | ((with_reducible refine law_store_fresh 81 (.tmp 5) (.tmp 11) wr 81 _ (c.cells (.slice pA c.parts.length pc)).toArray ?_ ?_ rfl ?_ ?_ (cells_oneCell _ _ _ _) ?_); rfl; rfl; exact cmd_info; rfl)
        | fail)
      refine (clone_ints _ lo hi _ c.parts hparts2 (by simp; omega)).mono ?_
      rintro e w1 ⟨v1, rfl, hown1, hb1⟩
      obtain ⟨A1, c1, hv1, _⟩ := hown1.1.form
      subst hv1
      have hB1 : Blk w1 wr.heap.size 81 (c.cells (.slice pA c.parts.length pc)).toArray := (Blk.new wr 81 _).below hb1 (by simp)
      have hc15 : w1.cell? ⟨wr.heap.size, 15, none⟩ = some (.slice pA c.parts.length pc) := hB1.cell 15
      have hf15 := hB1.frozen 15
      have hB2 : Blk (w1.setCell ⟨wr.heap.size, 15, none⟩ (.slice A1 c.parts.length c1)) wr.heap.size 81 (c.cells (.slice A1 c.parts.length c1)).toArray := hB1.set_ 15 _
      have hr2 := hB2.range
      have hs1 := hb1.size
      simp only [World.size_alloc] at hs1
      have hownW : ((w1.setCell ⟨wr.heap.size, 15, none⟩ (.slice A1 c.parts.length c1)).alloc (.cells (c.cells (.slice A1 c.parts.length c1)).toArray 81)).ownsRow w.heap.size 81 18 u3 k rows.flatten :=
        (hown.fr (((Fr.of_below (((Below.refl wr.heap.size wr).alloc (Nat.le_refl _) _).trans (hb1.mono (by simp))) (fun _ => False)).setCell (p := ⟨wr.heap.size, 15, none⟩) (.inr (Nat.le_refl _)) _).alloc (by simp; omega) _) (Nat.le_refl _) (fun _ _ _ h => h)).1
      have hrd : Rd ((w1.setCell ⟨wr.heap.size, 15, none⟩ (.slice A1 c.parts.length c1)).alloc (.cells (c.cells (.slice A1 c.parts.length c1)).toArray 81)) 0 (w1.heap.size + 1) 18 (some ⟨(w1.setCell ⟨wr.heap.size, 15, none⟩ (.slice A1 c.parts.length c1)).heap.size, 0, none⟩) 1 (c.cells (.slice A1 c.parts.length c1)) :=
        ⟨rfl, fun _ => ⟨_, rfl, Nat.zero_le _, by simp, fun j u hu => by rw [Addr.add_mid]; exact (Blk.new _ 81 _).range j u hu⟩⟩
      go_wp2_with (first
        | ((with_reducible refine law_load 81 (.tmp 5) wr.heap.size 0 (c.cells (.slice A1 c.parts.length c1)) ?_ hr2 Tryd.underlying81 ?_ ?_ ?_); rfl; rfl; exact cmd_info)
        | ((with_reducible refine law_buildSlice1 46 81 (.tmp 17) i1 z1 (c.cells (.slice A1 c.parts.length c1)).toArray 18 ?_ Tryd.underlying46 hi1 hz11 hz12 hz14 ?_ (by decide) (by decide) ?_); rfl; rfl)
        | (at_builtin
           refine wpList_append_any _ rfl (.tmp 16) (.tmp 18) 46 rfl w.heap.size 81 i1 z1 18 184 Tryd.underlying46 hi1 hz11 hz12 hz13 hz14 (by decide) u3 k rows.flatten rfl hownW 0 (w1.heap.size + 1) _ 1 1 (c.cells (.slice A1 c.parts.length c1)) rfl hrd
             (by have := cells_oneCell c A1 c.parts.length c1; simpa using this) (by have := HL.out; have := HC.out; omega) (by have := HB.out; omega) (by simp; omega) ?_
           intro v3 w3 hown3 hg3 hat3)
        | fail)
      have hdone := CopInv.step (cs0 := (c.cells (.slice pA c.parts.length pc)).toArray) hown hrows hbel HLK.out hb1 hown1 hown3 hownW hg3
      clear hown3 hg3 hat3 hownW hrd hB2 hr2 hB1 hc15 hf15 hown1 hb1 hown hrows hbel hrange
      go_wp2
      go_roundw
      case rel => exact ⟨k + 1, by omega, by go_num, hdone⟩
      case measure => simp [intOf]; omega
    · have hkn : k = n := by omega
      subst hkn
      go_wp2
      go_ret
      have hn := HN.out
      rw [hn] at hinv
      exact hinv.done (by rw [← hn]; exact HB.out)

end Go.Proofs.YtnlncfjibbdimaaDoor
