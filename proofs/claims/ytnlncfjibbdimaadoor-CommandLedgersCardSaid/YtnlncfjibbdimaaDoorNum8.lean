/-
  The walk of wire.Writer's Num, for every number that is not negative.
-/
import Derived.Test.YtnlncfjibbdimaaDoorWriter2
import Derived.Laws.Bits128
namespace Go.Proofs.YtnlncfjibbdimaaDoor
open Go.RowKit
set_option linter.unusedSimpArgs false
set_option linter.unusedVariables false

/-- A number's bytes. -/
def enc (n : Nat) : List Nat := if h : n < 128 then [n] else (n % 128 + 128) :: enc (n / 128)
termination_by n
decreasing_by omega
theorem enc_small {n : Nat} (h : n < 128) : enc n = [n] := by rw [enc, dif_pos h]
theorem enc_big {n : Nat} (h : ¬ n < 128) : enc n = (n % 128 + 128) :: enc (n / 128) := by rw [enc, dif_neg h]
theorem enc_pos (n : Nat) : 1 ≤ (enc n).length := by rw [enc]; split <;> simp

set_option maxRecDepth 100000 in
set_option maxHeartbeats 3200000 in
theorem num_any8 (w : World) (lo g n : Nat) (bs : List Nat) (h : WAt w lo g bs) (hl : bs.length + (enc n).length ≤ 1099511627776) (hn : n ≤ 9223372036854775807) : Calls Tryd.prog 99 #[.pointer (some ⟨g, 0, none⟩), .int .i64 n] w (NumW w lo g (bs ++ enc n)) := by
  obtain ⟨i0, hi0, hz0, hz1, hz2⟩ := info_parts8 u8_info
  have hn0 : ¬ (n : Int) < 0 := by omega
  have H0 := Lib.hid h
  clear h
  go_enter Tryd.func99, Tryd.ntmps99
  go_wp2
  go_loopw [1] (fun v wr => ∃ (m : Nat) (bs' : List Nat), v = .int .i64 m ∧ m ≤ 9223372036854775807 ∧ bs' ++ enc m = bs ++ enc n ∧ WAt wr lo g bs' ∧ Below lo w wr ∧ Fr w.heap.size (WS w g) w wr) (fun v _ => (intOf v).toNat)
  case atStart => exact ⟨n, bs, rfl, hn, rfl, H0.out, Below.refl _ _, Fr.refl _ _ _⟩
  case round =>
    obtain ⟨m, bs', rfl, hm, hbs, hI⟩ := hrel
    have hlen : bs'.length + (enc m).length ≤ 1099511627776 := by
      have := congrArg List.length hbs
      simp only [List.length_append] at this
      omega
    have hep := enc_pos m
    have hlo := hI.1.1
    obtain ⟨A, c, hB, hown, hc1, hc2, hA⟩ := hI.1.open_
    obtain ⟨k, hk⟩ : ∃ k, k = bs'.length := ⟨_, rfl⟩
    rw [← hk] at hB hown hc1 hA
    have hkl : k < 1099511627776 := by omega
    have hg := hB.lt
    have cB := hB.cell
    have HBS := Lib.hid hbs
    have HI := Lib.hid hI
    have HL := Lib.hid hkl
    have HO := Lib.hid hlo
    have HB := Lib.hid hB
    have HO5 := Lib.hid hown
    have HK := Lib.hid hk
    clear hbs hI hlo hB hown hc1 hc2 hA hlen hep hkl hk
    by_cases hbig : (m : Int) > 127
    · obtain ⟨q, hq⟩ : ∃ q, q = m % 128 := ⟨_, rfl⟩
      obtain ⟨e, he⟩ : ∃ e, e = q + 128 := ⟨_, rfl⟩
      obtain ⟨d, hd⟩ : ∃ d, d = m / 128 := ⟨_, rfl⟩
      have hb1 : bits BinOp.and IntKind.i64 (m : Int) 127 = (q : Int) := by rw [i64_and127]; omega
      have hb2 : (q : Int) % 256 = q := by omega
      have hb3 : bits BinOp.or IntKind.u8 (q : Int) 128 = (e : Int) := by rw [u8_or128_right _ (by omega) (by omega)]; omega
      have hb4 : (m : Int) / 128 = (d : Int) := by omega
      have henc : enc m = e :: enc d := by rw [enc_big (by omega), he, hq, hd]
      have hdm : d < m := by omega
      have HE := Lib.hid henc
      clear hq he hd henc
      have hownW : (wr.alloc (.cells #[.int .u8 e] 5)).ownsRow lo 5 1 (.slice A k c) k (u8s bs') :=
        (OwnRow.fr (lo := lo) (hi := wr.heap.size) ⟨HO5.out, fun g hg => (HO5.out.lt g hg).2⟩ (Fr.of_below ((Below.refl wr.heap.size wr).alloc (Nat.le_refl _) _) (fun _ => False)) (Nat.le_refl _) (fun _ _ _ h => h)).1
      have hrd : Rd (wr.alloc (.cells #[.int .u8 e] 5)) 0 (wr.heap.size + 1) 1 (some ⟨wr.heap.size, 0, none⟩) 1 [.int .u8 e] :=
        ⟨rfl, fun _ => ⟨_, rfl, Nat.zero_le _, by simp, fun j u hu => by rw [Addr.add_mid, Nat.zero_add, (Blk.new wr 5 _).cell j]; simpa using hu⟩⟩
      have HW := Lib.hid (And.intro hownW hrd)
      clear hownW hrd
      go_wp2_with (at_builtin
                   refine wpList_append_any _ rfl (.tmp 15) (.tmp 20) 84 rfl lo 5 i0 _ 1 1 Tryd.underlying84 hi0 hz0 hz1 hz2 rfl (by decide) (.slice A k c) k (u8s bs') rfl HW.out.1
                     0 (wr.heap.size + 1) (some ⟨wr.heap.size, 0, none⟩) 1 1 [.int .u8 e] rfl HW.out.2 (by simp [Value.oneCell']) (by have := HL.out; simp only [maxLen]; omega) (by have := HL.out; omega) (by have := HO.out; simp; omega) ?_
                   intro v1 w1 hown1 hg1 hat1
                   have hO1 : OwnRow w1 lo w1.heap.size 5 1 v1 (k + 1) (u8s bs' ++ [.int .u8 e]) := ⟨hown1, fun g hg => (hown1.lt g hg).2⟩
                   have hB1 : Blk w1 g 227 #[.slice A k c, .bool false] := (HB.out.alloc (.cells #[.int .u8 e] 5)).grown hg1 (own_ne_blk HW.out.1 (HB.out.alloc _) (by decide))
                   have hb1 : Below lo wr w1 := ((Below.refl lo wr).alloc (by have := HO.out; omega) _).grown hg1 (by have := HO.out; simp; omega) (fun k hk => (HW.out.1.lt k hk).1)
                   obtain ⟨A1, c1, hv1, _⟩ := hO1.form
                   subst hv1
                   have cB1 := hB1.cell
                   have fB1 := hB1.frozen
                   have hfin : WAt (w1.setCell ⟨g, 0, none⟩ (.slice A1 (k + 1) c1)) lo g (bs' ++ [e]) := ⟨HO.out, by have := HL.out; have := HK.out; simp; omega, A1, c1, by have h := hB1.set_ 0 (.slice A1 (k + 1) c1); rw [HK.out] at h ⊢; simpa using h, by have h := ownsRow_far (i := 0) (u := .slice A1 (k + 1) c1) hown1 hB1 (by decide); rw [HK.out] at h ⊢; simpa [u8s] using h⟩
                   have hbf : Below lo wr (w1.setCell ⟨g, 0, none⟩ (.slice A1 (k + 1) c1)) := hb1.setCell (p := ⟨g, 0, none⟩) HO.out _
                   have hfr : Fr wr.heap.size (WS wr g) wr (w1.setCell ⟨g, 0, none⟩ (.slice A1 (k + 1) c1)) :=
                     (((Fr.refl wr.heap.size (WS wr g) wr).alloc (Nat.le_refl _) (.cells #[.int .u8 e] 5)).grown hg1 (by simp) (fun k hk => by
                       have hk' := own_blk HO5.out hk
                       exact .inl (.inr hk'))).setCell (p := ⟨g, 0, none⟩) (.inl (.inl rfl)) _
                   have HF := Lib.hid (NumW.trans (e := .returned (.tuple #[])) HI.out ⟨rfl, hfin, hbf, hfr⟩).2
                   clear hfr hfin hbf hO1 hB1 hb1 hown1 hg1 hat1)
      go_roundw
      case rel => exact ⟨d, bs' ++ [e], by go_num, by omega, by rw [← HBS.out, HE.out]; simp, HF.out⟩
      case measure => simp [intOf]; omega
    · have hmod : (m : Int) % 256 = m := by omega
      have henc : enc m = [m] := enc_small (by omega)
      have HE := Lib.hid henc
      clear henc
      have hownW : (wr.alloc (.cells #[.int .u8 m] 5)).ownsRow lo 5 1 (.slice A k c) k (u8s bs') :=
        (OwnRow.fr (lo := lo) (hi := wr.heap.size) ⟨HO5.out, fun g hg => (HO5.out.lt g hg).2⟩ (Fr.of_below ((Below.refl wr.heap.size wr).alloc (Nat.le_refl _) _) (fun _ => False)) (Nat.le_refl _) (fun _ _ _ h => h)).1
      have hrd : Rd (wr.alloc (.cells #[.int .u8 m] 5)) 0 (wr.heap.size + 1) 1 (some ⟨wr.heap.size, 0, none⟩) 1 [.int .u8 m] :=
        ⟨rfl, fun _ => ⟨_, rfl, Nat.zero_le _, by simp, fun j u hu => by rw [Addr.add_mid, Nat.zero_add, (Blk.new wr 5 _).cell j]; simpa using hu⟩⟩
      have HW := Lib.hid (And.intro hownW hrd)
      clear hownW hrd
      go_wp2_with (at_builtin
                   refine wpList_append_any _ rfl (.tmp 30) (.tmp 33) 84 rfl lo 5 i0 _ 1 1 Tryd.underlying84 hi0 hz0 hz1 hz2 rfl (by decide) (.slice A k c) k (u8s bs') rfl HW.out.1
                     0 (wr.heap.size + 1) (some ⟨wr.heap.size, 0, none⟩) 1 1 [.int .u8 m] rfl HW.out.2 (by simp [Value.oneCell']) (by have := HL.out; simp only [maxLen]; omega) (by have := HL.out; omega) (by have := HO.out; simp; omega) ?_
                   intro v1 w1 hown1 hg1 hat1
                   have hO1 : OwnRow w1 lo w1.heap.size 5 1 v1 (k + 1) (u8s bs' ++ [.int .u8 m]) := ⟨hown1, fun g hg => (hown1.lt g hg).2⟩
                   have hB1 : Blk w1 g 227 #[.slice A k c, .bool false] := (HB.out.alloc (.cells #[.int .u8 m] 5)).grown hg1 (own_ne_blk HW.out.1 (HB.out.alloc _) (by decide))
                   have hb1 : Below lo wr w1 := ((Below.refl lo wr).alloc (by have := HO.out; omega) _).grown hg1 (by have := HO.out; simp; omega) (fun k hk => (HW.out.1.lt k hk).1)
                   obtain ⟨A1, c1, hv1, _⟩ := hO1.form
                   subst hv1
                   have cB1 := hB1.cell
                   have fB1 := hB1.frozen
                   have hfin : WAt (w1.setCell ⟨g, 0, none⟩ (.slice A1 (k + 1) c1)) lo g (bs' ++ [m]) := ⟨HO.out, by have := HL.out; have := HK.out; simp; omega, A1, c1, by have h := hB1.set_ 0 (.slice A1 (k + 1) c1); rw [HK.out] at h ⊢; simpa using h, by have h := ownsRow_far (i := 0) (u := .slice A1 (k + 1) c1) hown1 hB1 (by decide); rw [HK.out] at h ⊢; simpa [u8s] using h⟩
                   have hbf : Below lo wr (w1.setCell ⟨g, 0, none⟩ (.slice A1 (k + 1) c1)) := hb1.setCell (p := ⟨g, 0, none⟩) HO.out _
                   have hfr : Fr wr.heap.size (WS wr g) wr (w1.setCell ⟨g, 0, none⟩ (.slice A1 (k + 1) c1)) :=
                     (((Fr.refl wr.heap.size (WS wr g) wr).alloc (Nat.le_refl _) (.cells #[.int .u8 m] 5)).grown hg1 (by simp) (fun k hk => by
                       have hk' := own_blk HO5.out hk
                       exact .inl (.inr hk'))).setCell (p := ⟨g, 0, none⟩) (.inl (.inl rfl)) _
                   have HF := Lib.hid (NumW.trans (e := .returned (.tuple #[])) HI.out ⟨rfl, hfin, hbf, hfr⟩).2
                   clear hfr hfin hbf hO1 hB1 hb1 hown1 hg1 hat1)
      go_end0
      have hf := HF.out
      rw [← HE.out, HBS.out] at hf
      exact ⟨rfl, hf⟩

end Go.Proofs.YtnlncfjibbdimaaDoor

