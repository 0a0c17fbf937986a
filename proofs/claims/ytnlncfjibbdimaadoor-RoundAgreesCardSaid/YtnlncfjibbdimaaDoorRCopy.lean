/-
  The walk of the document's Copy.
-/
import Derived.Test.YtnlncfjibbdimaaDoorCopy
namespace Go.Proofs.YtnlncfjibbdimaaDoor
open Go.RowKit
set_option linter.unusedSimpArgs false
set_option linter.unusedVariables false

set_option maxHeartbeats 400000 in
theorem rcopy_any (w : World) (lo hi : Nat) (v : Value) (l : List Cmd) (h : LedAt w lo hi v l) (hhi : hi ≤ w.heap.size) :
    Calls Tryd.prog 42 #[v] w (CopyPost w l) := by
  obtain ⟨A, cap, rfl, hl, hc, hb⟩ := h.form
  obtain ⟨n, hn⟩ : ∃ n, n = l.length := ⟨_, rfl⟩
  rw [← hn] at h hl hb ⊢
  have hm : n ≤ 9223372036854775807 := by simp only [maxLen] at hc; omega
  have HN := Lib.hid hn
  have HC := Lib.hid hc
  have HB := Lib.hid hb
  have HL := Lib.hid hl
  clear hn hl hc hb
  obtain ⟨i1, z1, hi1, hz11, hz12, hz13, hz14⟩ := cmd_info'
  obtain ⟨i0, hi0, hz0, hz1, hz2⟩ := info_parts int_info
  go_enter Tryd.func42, Tryd.ntmps42
  go_wp2
  go_loopw [3, 9] (fun out i wr => ∃ k : Nat, k ≤ n ∧ i = .int .i64 k ∧ CopInv w l wr out k) (fun _ i _ => n - (intOf i).toNat)
  case atStart => exact ⟨0, Nat.zero_le _, rfl, CopInv.start_made⟩
  case round =>
    obtain ⟨k, hk, rfl, hinv⟩ := hrel
    by_cases hlt : k < n
    · obtain ⟨rows, hown, hrows, hbel⟩ := hinv
      have hk' : k < l.length := by rw [← HN.out]; exact hlt
      have hlk := List.getElem?_eq_getElem hk'
      obtain ⟨b, o, pv, rfl, hlo, hhi', hr0, hparts⟩ := h.range hlk
      obtain ⟨c, hc⟩ : ∃ c, c = l[k] := ⟨_, rfl⟩
      rw [← hc] at hr0 hparts hlk
      have HLK := Lib.hid hlk
      clear hc hlk
      have hrange : wr.rangeAt b (o + k * 18) (c.cells pv) := rangeAt_fr hr0 (Fr.of_below hbel (fun _ => False)) (by omega) (fun h => h)
      clear hr0
      obtain ⟨pA, pc, hpv⟩ : ∃ pA pc, pv = .slice pA c.parts.length pc := by
        obtain ⟨A1, c1, q1, _⟩ := hparts
        exact ⟨A1, c1, q1⟩
      subst hpv
      have h15 : ∀ u, (c.cells u)[15]? = some u := fun _ => rfl
      have hsw := hbel.size
      obtain ⟨hp1, hp2⟩ : c.parts.length ≤ maxLen ∧ c.parts.length * 8 ≤ 140737488355328 := by
        obtain ⟨A1, c1, _, q2, q3, q4, _⟩ := hparts
        exact ⟨by omega, q4⟩
      have HP := Lib.hid hp1
      have HP2 := Lib.hid hp2
      clear hp1 hp2
      have hsrc : Rd ((wr.alloc (.cells (c.cells (.slice pA c.parts.length pc)).toArray 81)).alloc (.cells #[] 3)) lo hi 1 pA c.parts.length (ints c.parts) := by
        obtain ⟨A1, c1, q1, _, _, _, q5⟩ := hparts
        injection q1 with q1 _ _
        rw [q1]
        exact q5.fr (Fr.of_below (((hbel.mono hhi).alloc (by omega) _).alloc (by simp; omega) _) (fun _ => False)) (Nat.le_refl _) (fun _ _ _ h => h)
      have hmade : ((wr.alloc (.cells (c.cells (.slice pA c.parts.length pc)).toArray 81)).alloc (.cells #[] 3)).ownsRow (wr.heap.size + 1) 3 1 (.slice (some ⟨wr.heap.size + 1, 0, none⟩) 0 0) 0 [] := by
        have := World.ownsRow_made (base := wr.heap.size + 1) (e := 3) (size := 1) (wr.alloc (.cells (c.cells (.slice pA c.parts.length pc)).toArray 81)) #[] 0 (by simp) (by simp [maxLen]) (by simp)
        simpa using this
      go_wp2_with (first
        | ((with_reducible refine law_load 81 (.tmp 11) b (o + k * 18) (c.cells (.slice pA c.parts.length pc)) ?_ hrange Tryd.underlying81 ?_ ?_ ?_); rfl; rfl; exact cmd_info)
        | ((with_reducible refine law_store_fresh 81 (.tmp 5) (.tmp 12) wr 81 _ (c.cells (.slice pA c.parts.length pc)).toArray ?_ ?_ rfl ?_ ?_ (cells_oneCell _ _ _ _) ?_); rfl; rfl; exact cmd_info; rfl)
        | (at_builtin
           refine wpList_append_any _ rfl (.tmp 13) (.tmp 15) 40 rfl (wr.heap.size + 1) 3 i0 _ 1 8 Tryd.underlying40 hi0 hz0 hz1 hz2 rfl (by decide) (.slice (some ⟨wr.heap.size + 1, 0, none⟩) 0 0) 0 [] rfl
             hmade lo hi pA c.parts.length pc (ints c.parts) rfl hsrc (ints_oneCell _) (by have := HP.out; omega) (by have := HP2.out; omega) (by simp) ?_
           intro v1 w1 howna hga hata
           have hb1 : Below (wr.alloc (.cells (c.cells (.slice pA c.parts.length pc)).toArray 81)).heap.size (wr.alloc (.cells (c.cells (.slice pA c.parts.length pc)).toArray 81)) w1 := ((Below.refl _ _).alloc (Nat.le_refl _) _).grown hga (by simp) (fun g hg => by simp [Value.ownBlock] at hg; simp; omega)
           have hown1 : OwnInts w1 (wr.alloc (.cells (c.cells (.slice pA c.parts.length pc)).toArray 81)).heap.size w1.heap.size v1 c.parts := ⟨⟨by simpa using howna, fun g hg => (howna.lt g hg).2⟩, HP2.out⟩
           clear howna hga hata
           obtain ⟨A1, c1, hv1, _⟩ := hown1.1.form
           subst hv1
           have hB1 : Blk w1 wr.heap.size 81 (c.cells (.slice pA c.parts.length pc)).toArray := (Blk.new wr 81 _).below hb1 (by simp)
           have hc15 : w1.cell? ⟨wr.heap.size, 15, none⟩ = some (.slice pA c.parts.length pc) := hB1.cell 15
           have hf15 := hB1.frozen 15
           have hB2 : Blk (w1.setCell ⟨wr.heap.size, 15, none⟩ (.slice A1 c.parts.length c1)) wr.heap.size 81 (c.cells (.slice A1 c.parts.length c1)).toArray := hB1.set_ 15 _
           have hr2 := hB2.range
           have hs1 := hb1.size
           simp only [World.size_alloc] at hs1
           have hownW : ((w1.setCell ⟨wr.heap.size, 15, none⟩ (.slice A1 c.parts.length c1)).alloc (.cells (c.cells (.slice A1 c.parts.length c1)).toArray 81)).ownsRow w.heap.size 81 18 u3 k rows.flatten :=
             (hown.fr (((Fr.of_below (((Below.refl wr.heap.size wr).alloc (Nat.le_refl _) _).trans (hb1.mono (by simp))) (fun _ => False)).setCell (p := ⟨wr.heap.size, 15, none⟩) (.inr (Nat.le_refl _)) _).alloc (by simp; omega) _) (Nat.le_refl _) (fun _ _ _ h => h)).1
           have hrd : Rd ((w1.setCell ⟨wr.heap.size, 15, none⟩ (.slice A1 c.parts.length c1)).alloc (.cells (c.cells (.slice A1 c.parts.length c1)).toArray 81)) 0 (w1.heap.size + 1) 18 (some ⟨(w1.setCell ⟨wr.heap.size, 15, none⟩ (.slice A1 c.parts.length c1)).heap.size, 0, none⟩) 1 (c.cells (.slice A1 c.parts.length c1)) :=
             ⟨rfl, fun _ => ⟨_, rfl, Nat.zero_le _, by simp, fun j u hu => by rw [Addr.add_mid]; exact (Blk.new _ 81 _).range j u hu⟩⟩)
        | ((with_reducible refine law_load 81 (.tmp 5) wr.heap.size 0 (c.cells (.slice A1 c.parts.length c1)) ?_ hr2 Tryd.underlying81 ?_ ?_ ?_); rfl; rfl; exact cmd_info)
        | ((with_reducible refine law_buildSlice1 46 81 (.tmp 19) i1 z1 (c.cells (.slice A1 c.parts.length c1)).toArray 18 ?_ Tryd.underlying46 hi1 hz11 hz12 hz14 ?_ (by decide) (by decide) ?_); rfl; rfl)
        | (at_builtin
           refine wpList_append_any _ rfl (.tmp 18) (.tmp 20) 46 rfl w.heap.size 81 i1 z1 18 184 Tryd.underlying46 hi1 hz11 hz12 hz13 hz14 (by decide) u3 k rows.flatten rfl hownW 0 (w1.heap.size + 1) _ 1 1 (c.cells (.slice A1 c.parts.length c1)) rfl hrd
             (by have := cells_oneCell c A1 c.parts.length c1; simpa using this) (by have := HL.out; have := HC.out; omega) (by have := HB.out; omega) (by simp; omega) ?_
           intro v3 w3 hown3 hg3 hat3)
        | fail)
      have hdone := CopInv.step (cs0 := (c.cells (.slice pA c.parts.length pc)).toArray) hown hrows hbel HLK.out hb1 hown1 hown3 hownW hg3
      clear hown3 hg3 hat3 hownW hrd hB2 hr2 hB1 hc15 hf15 hown1 hb1 hown hrows hbel hrange
      go_wp2
      go_roundw
      case rel => exact ⟨k + 1, by omega, by go_num, hdone⟩
      case measure => simp [intOf]; omega
    · have hkn : k = n := by omega
      subst hkn
      go_wp2
      go_ret
      have hn := HN.out
      rw [hn] at hinv
      exact hinv.done (by rw [← hn]; exact HB.out)


end Go.Proofs.YtnlncfjibbdimaaDoor
