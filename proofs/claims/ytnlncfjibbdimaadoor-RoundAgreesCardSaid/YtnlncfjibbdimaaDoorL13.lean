/-
  Ledgers of layers 12 and 13: copied, index, Place.
-/
import Derived.Test.YtnlncfjibbdimaaDoorCopy
import Derived.Test.YtnlncfjibbdimaaDoorSame
import Derived.Test.YtnlncfjibbdimaaDoorEqAgg
import Derived.Test.YtnlncfjibbdimaaDoorLaws
import Derived.Test.YtnlncfjibbdimaaDoorErrs
import Derived.Deep.RegionHeld3
import Derived.Deep.Cut
namespace Go.Proofs.YtnlncfjibbdimaaDoor
open Go.RowKit
set_option linter.unusedSimpArgs false
set_option linter.unusedVariables false


set_option maxHeartbeats 400000 in
theorem copied118_any (w : World) (lo hi : Nat) (v : Value) (l : List Cmd) (h : LedAt w lo hi v l) (hhi : hi ≤ w.heap.size) :
    Calls Tryd.prog 118 #[v] w (CopyPost w l) := by
  obtain ⟨A, cap, rfl, hl, hc, hb⟩ := h.form
  obtain ⟨n, hn⟩ : ∃ n, n = l.length := ⟨_, rfl⟩
  rw [← hn] at h hl hb ⊢
  have hm : n ≤ 9223372036854775807 := by simp only [maxLen] at hc; omega
  have HN := Lib.hid hn
  have HC := Lib.hid hc
  have HB := Lib.hid hb
  have HL := Lib.hid hl
  clear hn hl hc hb
  obtain ⟨i1, z1, hi1, hz11, hz12, hz13, hz14⟩ := cmd_info'
  go_enter Tryd.func118, Tryd.ntmps118
  go_wp2
  go_loopw [3, 8] (fun out i wr => ∃ k : Nat, k ≤ n ∧ i = .int .i64 k ∧ CopInv w l wr out k) (fun _ i _ => n - (intOf i).toNat)
  case atStart => exact ⟨0, Nat.zero_le _, rfl, CopInv.start⟩
  case round =>
    obtain ⟨k, hk, rfl, hinv⟩ := hrel
    by_cases hlt : k < n
    · obtain ⟨rows, hown, hrows, hbel⟩ := hinv
      have hk' : k < l.length := by rw [← HN.out]; exact hlt
      have hlk := List.getElem?_eq_getElem hk'
      obtain ⟨b, o, pv, rfl, hlo, hhi', hr0, hparts⟩ := h.range hlk
      obtain ⟨c, hc⟩ : ∃ c, c = l[k] := ⟨_, rfl⟩
      rw [← hc] at hr0 hparts hlk
      have HLK := Lib.hid hlk
      clear hc hlk
      have hrange : wr.rangeAt b (o + k * 18) (c.cells pv) := rangeAt_fr hr0 (Fr.of_below hbel (fun _ => False)) (by omega) (fun h => h)
      clear hr0
      obtain ⟨pA, pc, hpv⟩ : ∃ pA pc, pv = .slice pA c.parts.length pc := by
        obtain ⟨A1, c1, q1, _⟩ := hparts
        exact ⟨A1, c1, q1⟩
      subst hpv
      have h15 : ∀ u, (c.cells u)[15]? = some u := fun _ => rfl
      have hsw := hbel.size
      have hparts2 : IntsAt (wr.alloc (.cells (c.cells (.slice pA c.parts.length pc)).toArray 81)) lo hi (.slice pA c.parts.length pc) c.parts :=
        hparts.fr (Fr.of_below ((hbel.mono hhi).alloc (by omega) _) (fun _ => False)) (Nat.le_refl _) (fun _ _ _ h => h)
      go_wp2_with (first
        | ((with_reducible refine law_load 81 (.tmp 10) b (o + k * 18) (c.cells (.slice pA c.parts.length pc)) ?_ hrange Tryd.underlying81 ?_ ?_ ?_); rfl; rfl; exact cmd_info)
        | ((with_reducible refine law_store_fresh 81 (.tmp 5) (.tmp 11) wr 81 _ (c.cells (.slice pA c.parts.length pc)).toArray ?_ ?_ rfl ?_ ?_ (cells_oneCell _ _ _ _) ?_); rfl; rfl; exact cmd_info; rfl)
        | fail)
      refine (clone_ints _ lo hi _ c.parts hparts2 (by simp; omega)).mono ?_
      rintro e w1 ⟨v1, rfl, hown1, hb1⟩
      obtain ⟨A1, c1, hv1, _⟩ := hown1.1.form
      subst hv1
      have hB1 : Blk w1 wr.heap.size 81 (c.cells (.slice pA c.parts.length pc)).toArray := (Blk.new wr 81 _).below hb1 (by simp)
      have hc15 : w1.cell? ⟨wr.heap.size, 15, none⟩ = some (.slice pA c.parts.length pc) := hB1.cell 15
      have hf15 := hB1.frozen 15
      have hB2 : Blk (w1.setCell ⟨wr.heap.size, 15, none⟩ (.slice A1 c.parts.length c1)) wr.heap.size 81 (c.cells (.slice A1 c.parts.length c1)).toArray := hB1.set_ 15 _
      have hr2 := hB2.range
      have hs1 := hb1.size
      simp only [World.size_alloc] at hs1
      have hownW : ((w1.setCell ⟨wr.heap.size, 15, none⟩ (.slice A1 c.parts.length c1)).alloc (.cells (c.cells (.slice A1 c.parts.length c1)).toArray 81)).ownsRow w.heap.size 81 18 u3 k rows.flatten :=
        (hown.fr (((Fr.of_below (((Below.refl wr.heap.size wr).alloc (Nat.le_refl _) _).trans (hb1.mono (by simp))) (fun _ => False)).setCell (p := ⟨wr.heap.size, 15, none⟩) (.inr (Nat.le_refl _)) _).alloc (by simp; omega) _) (Nat.le_refl _) (fun _ _ _ h => h)).1
      have hrd : Rd ((w1.setCell ⟨wr.heap.size, 15, none⟩ (.slice A1 c.parts.length c1)).alloc (.cells (c.cells (.slice A1 c.parts.length c1)).toArray 81)) 0 (w1.heap.size + 1) 18 (some ⟨(w1.setCell ⟨wr.heap.size, 15, none⟩ (.slice A1 c.parts.length c1)).heap.size, 0, none⟩) 1 (c.cells (.slice A1 c.parts.length c1)) :=
        ⟨rfl, fun _ => ⟨_, rfl, Nat.zero_le _, by simp, fun j u hu => by rw [Addr.add_mid]; exact (Blk.new _ 81 _).range j u hu⟩⟩
      go_wp2_with (first
        | ((with_reducible refine law_load 81 (.tmp 5) wr.heap.size 0 (c.cells (.slice A1 c.parts.length c1)) ?_ hr2 Tryd.underlying81 ?_ ?_ ?_); rfl; rfl; exact cmd_info)
        | ((with_reducible refine law_buildSlice1 46 81 (.tmp 17) i1 z1 (c.cells (.slice A1 c.parts.length c1)).toArray 18 ?_ Tryd.underlying46 hi1 hz11 hz12 hz14 ?_ (by decide) (by decide) ?_); rfl; rfl)
        | (at_builtin
           refine wpList_append_any _ rfl (.tmp 16) (.tmp 18) 46 rfl w.heap.size 81 i1 z1 18 184 Tryd.underlying46 hi1 hz11 hz12 hz13 hz14 (by decide) u3 k rows.flatten rfl hownW 0 (w1.heap.size + 1) _ 1 1 (c.cells (.slice A1 c.parts.length c1)) rfl hrd
             (by have := cells_oneCell c A1 c.parts.length c1; simpa using this) (by have := HL.out; have := HC.out; omega) (by have := HB.out; omega) (by simp; omega) ?_
           intro v3 w3 hown3 hg3 hat3)
        | fail)
      have hdone := CopInv.step (cs0 := (c.cells (.slice pA c.parts.length pc)).toArray) hown hrows hbel HLK.out hb1 hown1 hown3 hownW hg3
      clear hown3 hg3 hat3 hownW hrd hB2 hr2 hB1 hc15 hf15 hown1 hb1 hown hrows hbel hrange
      go_wp2
      go_roundw
      case rel => exact ⟨k + 1, by omega, by go_num, hdone⟩
      case measure => simp [intOf]; omega
    · have hkn : k = n := by omega
      subst hkn
      go_wp2
      go_ret
      have hn := HN.out
      rw [hn] at hinv
      exact hinv.done (by rw [← hn]; exact HB.out)



set_option maxHeartbeats 400000 in
theorem copied167_any (w : World) (lo hi : Nat) (v : Value) (l : List Cmd) (h : LedAt w lo hi v l) (hhi : hi ≤ w.heap.size) :
    Calls Tryd.prog 167 #[v] w (CopyPost w l) := by
  obtain ⟨A, cap, rfl, hl, hc, hb⟩ := h.form
  obtain ⟨n, hn⟩ : ∃ n, n = l.length := ⟨_, rfl⟩
  rw [← hn] at h hl hb ⊢
  have hm : n ≤ 9223372036854775807 := by simp only [maxLen] at hc; omega
  have HN := Lib.hid hn
  have HC := Lib.hid hc
  have HB := Lib.hid hb
  have HL := Lib.hid hl
  clear hn hl hc hb
  obtain ⟨i1, z1, hi1, hz11, hz12, hz13, hz14⟩ := cmd_info'
  go_enter Tryd.func167, Tryd.ntmps167
  go_wp2
  go_loopw [3, 8] (fun out i wr => ∃ k : Nat, k ≤ n ∧ i = .int .i64 k ∧ CopInv w l wr out k) (fun _ i _ => n - (intOf i).toNat)
  case atStart => exact ⟨0, Nat.zero_le _, rfl, CopInv.start⟩
  case round =>
    obtain ⟨k, hk, rfl, hinv⟩ := hrel
    by_cases hlt : k < n
    · obtain ⟨rows, hown, hrows, hbel⟩ := hinv
      have hk' : k < l.length := by rw [← HN.out]; exact hlt
      have hlk := List.getElem?_eq_getElem hk'
      obtain ⟨b, o, pv, rfl, hlo, hhi', hr0, hparts⟩ := h.range hlk
      obtain ⟨c, hc⟩ : ∃ c, c = l[k] := ⟨_, rfl⟩
      rw [← hc] at hr0 hparts hlk
      have HLK := Lib.hid hlk
      clear hc hlk
      have hrange : wr.rangeAt b (o + k * 18) (c.cells pv) := rangeAt_fr hr0 (Fr.of_below hbel (fun _ => False)) (by omega) (fun h => h)
      clear hr0
      obtain ⟨pA, pc, hpv⟩ : ∃ pA pc, pv = .slice pA c.parts.length pc := by
        obtain ⟨A1, c1, q1, _⟩ := hparts
        exact ⟨A1, c1, q1⟩
      subst hpv
      have h15 : ∀ u, (c.cells u)[15]? = some u := fun _ => rfl
      have hsw := hbel.size
      have hparts2 : IntsAt (wr.alloc (.cells (c.cells (.slice pA c.parts.length pc)).toArray 81)) lo hi (.slice pA c.parts.length pc) c.parts :=
        hparts.fr (Fr.of_below ((hbel.mono hhi).alloc (by omega) _) (fun _ => False)) (Nat.le_refl _) (fun _ _ _ h => h)
      go_wp2_with (first
        | ((with_reducible refine law_load 81 (.tmp 10) b (o + k * 18) (c.cells (.slice pA c.parts.length pc)) ?_ hrange Tryd.underlying81 ?_ ?_ ?_); rfl; rfl; exact cmd_info)
        | ((with_reducible refine law_store_fresh 81 (.tmp 5) (.tmp 11) wr 81 _ (c.cells (.slice pA c.parts.length pc)).toArray ?_ ?_ rfl ?_ ?_ (cells_oneCell _ _ _ _) ?_); rfl; rfl; exact cmd_info; rfl)
        | fail)
      refine (clone_ints _ lo hi _ c.parts hparts2 (by simp; omega)).mono ?_
      rintro e w1 ⟨v1, rfl, hown1, hb1⟩
      obtain ⟨A1, c1, hv1, _⟩ := hown1.1.form
      subst hv1
      have hB1 : Blk w1 wr.heap.size 81 (c.cells (.slice pA c.parts.length pc)).toArray := (Blk.new wr 81 _).below hb1 (by simp)
      have hc15 : w1.cell? ⟨wr.heap.size, 15, none⟩ = some (.slice pA c.parts.length pc) := hB1.cell 15
      have hf15 := hB1.frozen 15
      have hB2 : Blk (w1.setCell ⟨wr.heap.size, 15, none⟩ (.slice A1 c.parts.length c1)) wr.heap.size 81 (c.cells (.slice A1 c.parts.length c1)).toArray := hB1.set_ 15 _
      have hr2 := hB2.range
      have hs1 := hb1.size
      simp only [World.size_alloc] at hs1
      have hownW : ((w1.setCell ⟨wr.heap.size, 15, none⟩ (.slice A1 c.parts.length c1)).alloc (.cells (c.cells (.slice A1 c.parts.length c1)).toArray 81)).ownsRow w.heap.size 81 18 u3 k rows.flatten :=
        (hown.fr (((Fr.of_below (((Below.refl wr.heap.size wr).alloc (Nat.le_refl _) _).trans (hb1.mono (by simp))) (fun _ => False)).setCell (p := ⟨wr.heap.size, 15, none⟩) (.inr (Nat.le_refl _)) _).alloc (by simp; omega) _) (Nat.le_refl _) (fun _ _ _ h => h)).1
      have hrd : Rd ((w1.setCell ⟨wr.heap.size, 15, none⟩ (.slice A1 c.parts.length c1)).alloc (.cells (c.cells (.slice A1 c.parts.length c1)).toArray 81)) 0 (w1.heap.size + 1) 18 (some ⟨(w1.setCell ⟨wr.heap.size, 15, none⟩ (.slice A1 c.parts.length c1)).heap.size, 0, none⟩) 1 (c.cells (.slice A1 c.parts.length c1)) :=
        ⟨rfl, fun _ => ⟨_, rfl, Nat.zero_le _, by simp, fun j u hu => by rw [Addr.add_mid]; exact (Blk.new _ 81 _).range j u hu⟩⟩
      go_wp2_with (first
        | ((with_reducible refine law_load 81 (.tmp 5) wr.heap.size 0 (c.cells (.slice A1 c.parts.length c1)) ?_ hr2 Tryd.underlying81 ?_ ?_ ?_); rfl; rfl; exact cmd_info)
        | ((with_reducible refine law_buildSlice1 46 81 (.tmp 17) i1 z1 (c.cells (.slice A1 c.parts.length c1)).toArray 18 ?_ Tryd.underlying46 hi1 hz11 hz12 hz14 ?_ (by decide) (by decide) ?_); rfl; rfl)
        | (at_builtin
           refine wpList_append_any _ rfl (.tmp 16) (.tmp 18) 46 rfl w.heap.size 81 i1 z1 18 184 Tryd.underlying46 hi1 hz11 hz12 hz13 hz14 (by decide) u3 k rows.flatten rfl hownW 0 (w1.heap.size + 1) _ 1 1 (c.cells (.slice A1 c.parts.length c1)) rfl hrd
             (by have := cells_oneCell c A1 c.parts.length c1; simpa using this) (by have := HL.out; have := HC.out; omega) (by have := HB.out; omega) (by simp; omega) ?_
           intro v3 w3 hown3 hg3 hat3)
        | fail)
      have hdone := CopInv.step (cs0 := (c.cells (.slice pA c.parts.length pc)).toArray) hown hrows hbel HLK.out hb1 hown1 hown3 hownW hg3
      clear hown3 hg3 hat3 hownW hrd hB2 hr2 hB1 hc15 hf15 hown1 hb1 hown hrows hbel hrange
      go_wp2
      go_roundw
      case rel => exact ⟨k + 1, by omega, by go_num, hdone⟩
      case measure => simp [intOf]; omega
    · have hkn : k = n := by omega
      subst hkn
      go_wp2
      go_ret
      have hn := HN.out
      rw [hn] at hinv
      exact hinv.done (by rw [← hn]; exact HB.out)

end Go.Proofs.YtnlncfjibbdimaaDoor

namespace Go.Proofs.YtnlncfjibbdimaaDoor
open Go.RowKit
set_option linter.unusedSimpArgs false
set_option linter.unusedVariables false

/-- Has a command this id? -/
def idB (c : Cmd) (a b d : Int) : Bool := eq3 c.idn c.idb c.ids a b d
/-- Where the first command with an id stands; -1: there is none. -/
def idxN (l : List Cmd) (a b d : Int) : Int := match l.findIdx? (fun c => idB c a b d) with
  | some i => i
  | none => -1
theorem idxN_some {l : List Cmd} {a b d : Int} {k : Nat} {c : Cmd} (hc : l[k]? = some c) (h : idB c a b d = true) (hall : ∀ c ∈ l.take k, idB c a b d = false) : idxN l a b d = k := by
  obtain ⟨hk, he⟩ := List.getElem?_eq_some_iff.1 hc
  have : l.findIdx? (fun c => idB c a b d) = some k := by
    rw [List.findIdx?_eq_some_iff_getElem]
    refine ⟨hk, by rw [he]; exact h, fun j hj => ?_⟩
    simp [hall l[j] (List.mem_take_iff_getElem.2 ⟨j, by omega, rfl⟩)]
  unfold idxN
  rw [this]
theorem idxN_none {l : List Cmd} {a b d : Int} (hall : ∀ c ∈ l, idB c a b d = false) : idxN l a b d = -1 := by
  have : l.findIdx? (fun c => idB c a b d) = none := by
    rw [List.findIdx?_eq_none_iff]
    exact hall
  unfold idxN
  rw [this]

set_option maxRecDepth 100000 in
set_option maxHeartbeats 800000 in
theorem idx169 (c : Cmd) (pv : Value) (x : Nat) (a b d : Int) (w : World) (hX : Blk w x 74 #[.int .i64 a, .int .i64 b, .int .i64 d]) :
    Calls Tryd.prog 169 #[.agg (c.cells pv).toArray, .pointer (some ⟨x, 0, none⟩)] w (YesNo (idB c a b d) w) := by
  have hY := Blk.new w 81 (c.cells pv).toArray
  have c1 : (w.alloc (.cells (c.cells pv).toArray 81)).cell? ⟨w.heap.size, 1, none⟩ = some (.int .i64 c.idn) := hY.cell 1
  have c2 : (w.alloc (.cells (c.cells pv).toArray 81)).cell? ⟨w.heap.size, 2, none⟩ = some (.int .i64 c.idb) := hY.cell 2
  have c3 : (w.alloc (.cells (c.cells pv).toArray 81)).cell? ⟨w.heap.size, 3, none⟩ = some (.int .i64 c.ids) := hY.cell 3
  have hX' := hX.alloc (.cells (c.cells pv).toArray 81)
  have d0 := hX'.cell 0
  have d1 := hX'.cell 1
  have d2 := hX'.cell 2
  have he := eq74 c.idn c.idb c.ids a b d
  have hb := Lib.hid ((Below.refl w.heap.size w).alloc (Nat.le_refl _) (.cells (c.cells pv).toArray 81))
  clear hX hX' hY
  go_enter Tryd.func169, Tryd.ntmps169
  go_wp2_with (fail)
  go_ret
  exact ⟨rfl, hb.out⟩

set_option maxRecDepth 100000 in
set_option maxHeartbeats 1600000 in
theorem idx168 (w : World) (lo hi : Nat) (v : Value) (l : List Cmd) (h : LedAt w lo hi v l) (hhi : hi ≤ w.heap.size) (x : Nat) (a b d : Int) (hX : Blk w x 74 #[.int .i64 a, .int .i64 b, .int .i64 d]) :
    Calls Tryd.prog 168 #[v, .func (.func 169) #[] #[.pointer (some ⟨x, 0, none⟩)]] w fun e w' => e = .returned (.int .i64 (idxN l a b d)) ∧ Below w.heap.size w w' := by
  obtain ⟨A, cap, rfl, hl, hc, hb⟩ := h.form
  obtain ⟨n, hn⟩ : ∃ n, n = l.length := ⟨_, rfl⟩
  have HL := Lib.hid (And.intro h (And.intro hhi (And.intro hn hX)))
  rw [← hn] at hl hb ⊢
  have hm : n ≤ 9223372036854775807 := by simp only [maxLen] at hc; omega
  clear h hhi hn hX hc
  go_enter Tryd.func168, Tryd.ntmps168
  go_wp2_with (fail)
  go_loopw [8] (fun i wr => ∃ k : Nat, k ≤ n ∧ i = .int .i64 k ∧ Hid (Below w.heap.size w wr ∧ ∀ c ∈ l.take k, idB c a b d = false)) (fun i _ => n - (intOf i).toNat)
  case atStart => exact ⟨0, Nat.zero_le _, rfl, Lib.hid ⟨Below.refl _ _, by simp⟩⟩
  case round =>
    obtain ⟨k, hk, rfl, HR⟩ := hrel
    by_cases hlt : (k : Int) < n
    · have hk' : k < l.length := by rw [← HL.out.2.2.1]; omega
      have hlk := List.getElem?_eq_getElem hk'
      have hL := HL.out.1
      rw [← HL.out.2.2.1] at hL
      obtain ⟨bb, o, pv, rfl, hlo, hhi', hr0, hparts⟩ := hL.range hlk
      obtain ⟨c, hcc⟩ : ∃ c, c = l[k] := ⟨_, rfl⟩
      rw [← hcc] at hr0 hparts hlk
      have hrange : wr.rangeAt bb (o + k * 18) (c.cells pv) := rangeAt_fr hr0 (Fr.of_below HR.out.1 (fun _ => False)) (by have := HL.out.2.1; omega) (fun h => h)
      have k169 := idx169 c pv x a b d wr (HL.out.2.2.2.below HR.out.1 HL.out.2.2.2.lt)
      have HLK := Lib.hid hlk
      clear hL hr0 hparts hlk hcc
      cases hid : idB c a b d with
      | true =>
        rw [hid] at k169
        have HK := Lib.hid (And.intro k169 hid)
        clear k169 hid
        go_wp2_with (first
          | ((with_reducible refine law_load 81 (.tmp 14) bb (o + k * 18) (c.cells pv) ?_ hrange Tryd.underlying81 ?_ ?_ ?_); rfl; rfl; exact cmd_info)
          | (go_at_call 169; refine HK.out.1.mono ?_; rintro e w2 ⟨rfl, b2⟩; have H2 := Lib.hid b2; clear b2)
          | fail)
        go_ret
        exact ⟨ret_int (idxN_some HLK.out HK.out.2 HR.out.2).symm, HR.out.1.trans (H2.out.mono HR.out.1.size)⟩
      | false =>
        rw [hid] at k169
        have HK := Lib.hid (And.intro k169 hid)
        clear k169 hid
        go_wp2_with (first
          | ((with_reducible refine law_load 81 (.tmp 14) bb (o + k * 18) (c.cells pv) ?_ hrange Tryd.underlying81 ?_ ?_ ?_); rfl; rfl; exact cmd_info)
          | (go_at_call 169; refine HK.out.1.mono ?_; rintro e w2 ⟨rfl, b2⟩; have H2 := Lib.hid b2; clear b2)
          | fail)
        go_roundw
        case rel => exact ⟨k + 1, by omega, by go_num, Lib.hid ⟨HR.out.1.trans (H2.out.mono HR.out.1.size), fun d hd => by
          rw [List.take_add_one, HLK.out] at hd
          rcases List.mem_append.1 hd with h | h
          · exact HR.out.2 d h
          · simp at h
            rw [h]
            exact HK.out.2⟩⟩
        case measure => simp [intOf]; omega
    · have hkn : k = l.length := by have := HL.out.2.2.1; omega
      have hall := HR.out.2
      rw [hkn, List.take_length] at hall
      have HA := Lib.hid hall
      clear hkn hall
      go_wp2_with (fail)
      go_ret
      exact ⟨ret_int (idxN_none HA.out).symm, HR.out.1⟩

set_option maxRecDepth 100000 in
set_option maxHeartbeats 800000 in
theorem index_any (w : World) (lo hi : Nat) (v : Value) (l : List Cmd) (h : LedAt w lo hi v l) (hhi : hi ≤ w.heap.size) (a b d : Int) :
    Calls Tryd.prog 154 #[v, .agg #[.int .i64 a, .int .i64 b, .int .i64 d]] w fun e w' => e = .returned (.int .i64 (idxN l a b d)) ∧ Below w.heap.size w w' := by
  have hmf : ∀ (fn : Fn) (first cap : Array Value) (w : World), (Instr.makeFunc fn first cap).run Tryd.prog w = .ok (.func fn first cap) w := fun _ _ _ _ => rfl
  have bA : Below w.heap.size w (w.alloc (.cells #[.int .i64 a, .int .i64 b, .int .i64 d] 74)) := (Below.refl _ _).alloc (Nat.le_refl _) _
  have k168 := idx168 (w.alloc (.cells #[.int .i64 a, .int .i64 b, .int .i64 d] 74)) lo hi v l (h.fr (Fr.of_below bA (fun _ => False)) hhi (fun _ _ _ h => h)) (Nat.le_trans hhi bA.size) w.heap.size a b d (Blk.new w 74 _)
  have HK := Lib.hid (And.intro k168 bA)
  clear k168 bA h
  go_enter Tryd.func154, Tryd.ntmps154
  go_wp2_with (first | (go_at_call 168; refine HK.out.1.mono ?_; rintro e w2 ⟨rfl, b2⟩; have H2 := Lib.hid b2; clear b2) | fail)
  go_ret
  exact ⟨rfl, HK.out.2.trans (H2.out.mono HK.out.2.size)⟩
end Go.Proofs.YtnlncfjibbdimaaDoor

namespace Go.Proofs.YtnlncfjibbdimaaDoor
open Go.RowKit
set_option linter.unusedSimpArgs false
set_option linter.unusedVariables false

theorem idxN_cases (l : List Cmd) (a b d : Int) : idxN l a b d = -1 ∨ ∃ i : Nat, idxN l a b d = i ∧ i < l.length := by
  unfold idxN
  cases h : l.findIdx? (fun c => idB c a b d) with
  | none => exact .inl rfl
  | some i =>
    rw [List.findIdx?_eq_some_iff_getElem] at h
    obtain ⟨h1, _⟩ := h
    exact .inr ⟨i, rfl, h1⟩
/-- What Place answers. -/
def PlacePost (l : List Cmd) (a b d : Int) (a10 : Addr) (w : World) (e : Ending) (w' : World) : Prop :=
  e = .returned (.tuple #[.int .i64 (idxN l a b d + 1), if idxN l a b d < 0 then errv a10 else .nilIface]) ∧ Below w.heap.size w w'

set_option maxRecDepth 100000 in
set_option maxHeartbeats 800000 in
theorem place_any (w : World) (lo hi : Nat) (v : Value) (l : List Cmd) (h : LedAt w lo hi v l) (hhi : hi ≤ w.heap.size) (a b d : Int) (a10 : Addr) (h10 : w.cell? ⟨10, 0, none⟩ = some (errv a10)) :
    Calls Tryd.prog 122 #[v, .agg #[.int .i64 a, .int .i64 b, .int .i64 d]] w (PlacePost l a b d a10 w) := by
  have h010 := World.block_lt_of_cell? w _ h10
  have bA : Below w.heap.size w (w.alloc (.cells #[.int .i64 a, .int .i64 b, .int .i64 d] 74)) := (Below.refl _ _).alloc (Nat.le_refl _) _
  have hX := Blk.new w 74 #[.int .i64 a, .int .i64 b, .int .i64 d]
  have c0 := hX.cell 0
  have c1 := hX.cell 1
  have c2 := hX.cell 2
  have k154 := index_any (w.alloc (.cells #[.int .i64 a, .int .i64 b, .int .i64 d] 74)) lo hi v l (h.fr (Fr.of_below bA (fun _ => False)) hhi (fun _ _ _ h => h)) (Nat.le_trans hhi bA.size) a b d
  have hlen : l.length ≤ 9223372036854775807 := by obtain ⟨_, _, _, h1, h2, _⟩ := h.form; simp only [maxLen] at h2; omega
  have hG : ∀ W, Below (w.alloc (.cells #[.int .i64 a, .int .i64 b, .int .i64 d] 74)).heap.size (w.alloc (.cells #[.int .i64 a, .int .i64 b, .int .i64 d] 74)) W → W.cell? ⟨10, 0, none⟩ = some (errv a10) ∧ Below w.heap.size w W := fun W f =>
    ⟨(((bA.trans (f.mono bA.size)).cell h010).trans h10), bA.trans (f.mono bA.size)⟩
  obtain ⟨i, hi_⟩ : ∃ i, i = idxN l a b d := ⟨_, rfl⟩
  have hcs := idxN_cases l a b d
  rw [← hi_] at k154 hcs
  have HK := Lib.hid (And.intro k154 (And.intro hG hi_))
  unfold PlacePost
  rw [← hi_]
  clear h k154 bA hX hG h10 h010 hi_
  rcases hcs with rfl | ⟨j, rfl, hj⟩
  · go_enter Tryd.func122, Tryd.ntmps122
    go_upto_region 3 with (first | (go_at_call 154; refine HK.out.1.mono ?_; rintro e w2 ⟨rfl, b2⟩; have cE := (HK.out.2.1 w2 b2).1; have H2 := Lib.hid (HK.out.2.1 w2 b2).2; clear b2) | fail)
    go_region_held3 (fun w' => w'.cell? ⟨10, 0, none⟩ = some (errv a10)) (go_keep) (fail)
    go_wp2_with (fail)
    go_ret2
    exact ⟨by simp, H2.out.drew⟩
  · have hw1 : IntKind.i64.wrap ((j : Int) + 1) = (j : Int) + 1 := by rw [IntKind.wrap_i64]; omega
    have hj0 : ¬ (j : Int) < 0 := by omega
    go_enter Tryd.func122, Tryd.ntmps122
    go_wp2_with (first | (go_at_call 154; refine HK.out.1.mono ?_; rintro e w2 ⟨rfl, b2⟩; have H2 := Lib.hid (HK.out.2.1 w2 b2).2; clear b2) | fail)
    go_ret2
    exact ⟨by simp [hj0], H2.out⟩
end Go.Proofs.YtnlncfjibbdimaaDoor
