/-
  The walks of wire.Writer's Text and of command.putId, in general.
-/
import Derived.Test.YtnlncfjibbdimaaDoorNum8
import Derived.Lib.AppendStr
namespace Go.Proofs.YtnlncfjibbdimaaDoor
open Go.RowKit
set_option linter.unusedSimpArgs false
set_option linter.unusedVariables false

def bytesN (s : ByteArray) : List Nat := s.data.toList.map (·.toNat)
theorem bytesN_length (s : ByteArray) : (bytesN s).length = s.size := by simp [bytesN]
theorem u8s_bytesN (s : ByteArray) : Lib.strCells s = u8s (bytesN s) := by
  simp only [Lib.strCells, u8s, bytesN, List.map_map]
  rfl

set_option maxRecDepth 100000 in
set_option maxHeartbeats 1600000 in
theorem text_any8 (w : World) (lo g : Nat) (s : ByteArray) (bs : List Nat) (h : WAt w lo g bs) (hl : bs.length + (enc s.size).length + s.size ≤ 1099511627776) :
    Calls Tryd.prog 101 #[.pointer (some ⟨g, 0, none⟩), .string s] w (NumW w lo g (bs ++ enc s.size ++ bytesN s)) := by
  obtain ⟨i0, hi0, hz0, hz1, hz2⟩ := info_parts8 u8_info
  have hs63 : s.size ≤ 9223372036854775807 := by omega
  have hnum := num_any8 w lo g s.size bs h (by omega) hs63
  have HLL := Lib.hid hl
  clear hl h
  go_enter Tryd.func101, Tryd.ntmps101
  go_wp2_with (first
               | (at_builtin
                  refine Lib.wpList_append_own_string _ rfl (.tmp 12) (.tmp 13) 84 9 rfl lo 5 i0 Tryd.underlying84 Tryd.underlying9 hi0 hz0 hz1 hz2 (.slice A k c) k (u8s (bs ++ enc s.size)) rfl HO5.out s rfl (by have hk1 := HK.out; have := HLL.out; rw [List.length_append] at hk1; simp only [maxLen]; omega) (by have hk1 := HK.out; have := HLL.out; rw [List.length_append] at hk1; omega) (by have := HO.out; have := HB.out.lt; omega) ?_
                  intro v2 w2 hown2 hg2 hat2
                  have hO2 : OwnRow w2 lo w2.heap.size 5 1 v2 (k + s.size) (u8s (bs ++ enc s.size) ++ Lib.strCells s) := ⟨hown2, fun g hg => (hown2.lt g hg).2⟩
                  have hB2 : Blk w2 g 227 #[.slice A k c, .bool false] := HB.out.grown hg2 (own_ne_blk HO5.out HB.out (by decide))
                  have hb2 : Below lo w1 w2 := (Below.refl lo w1).grown hg2 (by have := HO.out; have := HB.out.lt; omega) (fun k hk => (HO5.out.lt k hk).1)
                  obtain ⟨A2, c2, hv2, _⟩ := hO2.form
                  subst hv2
                  have cB2 := hB2.cell
                  have fB2 := hB2.frozen
                  have hlen : (bs ++ enc s.size ++ bytesN s).length = k + s.size := by rw [List.length_append, bytesN_length, ← HK.out]
                  have hfin : WAt (w2.setCell ⟨g, 0, none⟩ (.slice A2 (k + s.size) c2)) lo g (bs ++ enc s.size ++ bytesN s) := ⟨HO.out, by rw [hlen]; have hk1 := HK.out; have := HLL.out; rw [List.length_append] at hk1; omega, A2, c2, by rw [hlen]; simpa using hB2.set_ 0 (.slice A2 (k + s.size) c2), by
                    have h := ownsRow_far (i := 0) (u := .slice A2 (k + s.size) c2) hown2 hB2 (by decide)
                    rw [u8s_bytesN] at h
                    rw [hlen]
                    simpa [u8s] using h⟩
                  have hbf : Below lo w1 (w2.setCell ⟨g, 0, none⟩ (.slice A2 (k + s.size) c2)) := hb2.setCell (p := ⟨g, 0, none⟩) HO.out _
                  have hfr : Fr w1.heap.size (WS w1 g) w1 (w2.setCell ⟨g, 0, none⟩ (.slice A2 (k + s.size) c2)) :=
                    ((Fr.refl w1.heap.size (WS w1 g) w1).grown hg2 (Nat.le_refl _) (fun k hk => by
                      have hk' := own_blk HO5.out hk
                      exact .inl (.inr hk'))).setCell (p := ⟨g, 0, none⟩) (.inl (.inl rfl)) _
                  have HF := Lib.hid (NumW.trans (e := .returned (.tuple #[])) HN.out ⟨rfl, hfin, hbf, hfr⟩)
                  clear hfr hfin hbf hO2 hB2 hb2 hown2 hg2 hat2 hlen)
               | (go_at_call 99
                  refine hnum.mono ?_
                  rintro e w1 ⟨rfl, h1, b1, f1⟩
                  have hlo := h1.1
                  have HN := Lib.hid (And.intro h1 (And.intro b1 f1))
                  obtain ⟨A, c, hB, hown, hc1, hc2, hA⟩ := h1.open_
                  obtain ⟨k, hk⟩ : ∃ k, k = (bs ++ enc s.size).length := ⟨_, rfl⟩
                  rw [← hk] at hB hown hc1 hA
                  have hg := hB.lt
                  have cB := hB.cell
                  have HO := Lib.hid hlo
                  have HB := Lib.hid hB
                  have HO5 := Lib.hid hown
                  have HK := Lib.hid hk
                  clear hB hown hc1 hc2 hA b1 f1 h1 hlo hk))
  go_end0
  exact HF.out

set_option maxHeartbeats 800000 in
theorem putId_any8 (w : World) (lo g a b c : Nat) (bs : List Nat) (h : WAt w lo g bs) (hl : bs.length + (enc a).length + (enc b).length + (enc c).length ≤ 1099511627776) (ha : a ≤ 9223372036854775807) (hb : b ≤ 9223372036854775807) (hc : c ≤ 9223372036854775807) :
    Calls Tryd.prog 100 #[.pointer (some ⟨g, 0, none⟩), .agg #[.int .i64 a, .int .i64 b, .int .i64 c]] w (NumW w lo g (bs ++ enc a ++ enc b ++ enc c)) := by
  have hlo := h.1
  have hgl : g < w.heap.size := by
    obtain ⟨_, _, _, _, hB, _⟩ := h
    exact hB.lt
  have hls : lo ≤ w.heap.size := by omega
  have hX : Blk (w.alloc (.cells #[.int .i64 a, .int .i64 b, .int .i64 c] 74)) w.heap.size 74 #[.int .i64 a, .int .i64 b, .int .i64 c] := Blk.new w 74 _
  have h1 := h.below ((Below.refl _ _).alloc (Nat.le_refl _) (.cells #[.int .i64 a, .int .i64 b, .int .i64 c] 74)) (Nat.le_refl _)
  obtain ⟨x, hx⟩ : ∃ x, x = w.heap.size := ⟨_, rfl⟩
  have hxg : x ≠ g := by omega
  have kept : ∀ (u v : World), Blk u x 74 #[.int .i64 a, .int .i64 b, .int .i64 c] → Fr u.heap.size (WS u g) u v → Blk v x 74 #[.int .i64 a, .int .i64 b, .int .i64 c] := fun u v hu f => hu.fr f hu.lt (fun hs => by
    rcases hs with hs | ⟨cs, hs⟩
    · exact hxg hs
    · exact hu.ne_type hs (by decide) rfl)
  have HK := Lib.hid kept
  clear kept
  go_enter Tryd.func100, Tryd.ntmps100
  go_upto_region 1 with (fail)
  refine wp_letter (fun W => WAt W lo g bs ∧ Below lo w W ∧ Fr w.heap.size (WS w g) w W ∧ Blk W w.heap.size 74 #[.int .i64 a, .int .i64 b, .int .i64 c]) ⟨h1, (Below.refl _ _).alloc hls _, (Fr.refl _ _ _).alloc (Nat.le_refl _) _, hX⟩ ?_
  rintro W ⟨hW, bW, fW, hXW⟩
  rw [← hx] at hXW ⊢
  clear hX h1 hx
  have cX := hXW.cell
  go_wp2_with (fail)
  refine (num_any8 W lo g a bs hW (by omega) ha).mono ?_
  rintro e w1 ⟨rfl, h1, b1, f1⟩
  have hX1 := HK.out _ _ hXW f1
  have N1 := NumW.trans (e := .returned (.tuple #[])) ⟨hW, bW, fW⟩ ⟨rfl, h1, b1, f1⟩
  clear cX b1 f1
  have cX := hX1.cell
  go_wp2_with (fail)
  refine (num_any8 w1 lo g b _ h1 (by simp only [List.length_append]; omega) hb).mono ?_
  rintro e w2 ⟨rfl, h2, b2, f2⟩
  have hX2 := HK.out _ _ hX1 f2
  have N2 := NumW.trans (e := .returned (.tuple #[])) N1.2 ⟨rfl, h2, b2, f2⟩
  clear cX b2 f2
  have cX := hX2.cell
  go_wp2_with (fail)
  refine (num_any8 w2 lo g c _ h2 (by simp only [List.length_append]; omega) hc).mono ?_
  rintro e w3 ⟨rfl, h3, b3, f3⟩
  have N3 := NumW.trans (e := .returned (.tuple #[])) N2.2 ⟨rfl, h3, b3, f3⟩
  go_wp2_with (fail)
  go_end0
  exact N3

end Go.Proofs.YtnlncfjibbdimaaDoor
