/-
  A command's bytes: how many, and that they are bytes; wire.Writer's Bytes, Sum, Seal, Open; the library's slices.Equal, Grow, Concat; command.Write.
-/
import Derived.Test.YtnlncfjibbdimaaDoorUSameL
import Derived.Test.YtnlncfjibbdimaaDoorURdrA
import Derived.Test.YtnlncfjibbdimaaDoorURdX
import Derived.Laws.BitsAllLaws
import Derived.Lib.AppendZeros
import Derived.Laws.AppendOwn
import Derived.Laws.Shifts
import Derived.Test.YtnlncfjibbdimaaDoorUBase
namespace Go.Proofs.YtnlncfjibbdimaaDoor
open Go.RowKit
set_option linter.unusedSimpArgs false
set_option linter.unusedVariables false
theorem enc_byte : ∀ (n : Nat), ∀ x ∈ enc n, x < 256 := by
  intro n
  induction n using Nat.strongRecOn with
  | ind n ih =>
    intro x hx
    by_cases hb : n < 128
    · rw [enc_small hb, List.mem_singleton] at hx
      omega
    · rw [enc_big hb, List.mem_cons] at hx
      rcases hx with rfl | hx
      · omega
      · exact ih (n / 128) (by omega) x hx
theorem bytesN_byte (s : ByteArray) : ∀ x ∈ bytesN s, x < 256 := by
  intro x hx
  simp only [bytesN, List.mem_map] at hx
  obtain ⟨b, _, rfl⟩ := hx
  exact b.toNat_lt
theorem putN_byte (c : Cmd) : ∀ x ∈ putN c, x < 256 := by
  intro x hx
  simp only [putN, putHead, encI, encS, List.mem_append, List.mem_flatMap] at hx
  have e := fun (n : Nat) (h : x ∈ enc n) => enc_byte n x h
  have b := fun (s : ByteArray) (h : x ∈ bytesN s) => bytesN_byte s x h
  have f : (∃ a ∈ c.parts, x ∈ enc a.toNat) → x < 256 := fun ⟨a, _, h⟩ => e _ h
  grind
theorem putN_len (c : Cmd) (hL : Lens c) (hpp : ∀ x ∈ c.parts, inG x) : (putN c).length ≤ 2000 := by
  have hf := flat_len c.parts hpp
  have h1 := hL.l
  have h2 := hL.r.2.2.2.2.2.2.2.2.2.2.2.2.2.2
  simp only [putN, putHead, encS, List.length_append]
  have e : ∀ n : Int, (encI n).length = (enc n.toNat).length := fun _ => rfl
  simp only [e]
  omega
end Go.Proofs.YtnlncfjibbdimaaDoor
namespace Go.Proofs.YtnlncfjibbdimaaDoor
open Go.RowKit
set_option linter.unusedSimpArgs false
set_option linter.unusedVariables false
/-- A writer none of whose blocks is in Pk. -/
def WK (Pk : Nat → Prop) (w : World) (lo g : Nat) (bs : List Nat) : Prop := lo ≤ g ∧ bs.length ≤ 1099511627776 ∧ ¬ Pk g ∧
  ∃ A c, Blk w g 227 #[.slice A bs.length c, .bool false] ∧ w.ownsRow lo 5 1 (.slice A bs.length c) bs.length (u8s bs) ∧ ∀ k, (Value.slice A bs.length c).ownBlock = some k → ¬ Pk k
theorem WK.wat {Pk : Nat → Prop} {w : World} {lo g : Nat} {bs : List Nat} (h : WK Pk w lo g bs) : WAt w lo g bs := by
  obtain ⟨h1, h2, _, A, c, h3, h4, _⟩ := h
  exact ⟨h1, h2, A, c, h3, h4⟩
theorem WK.open_ {Pk : Nat → Prop} {w : World} {lo g : Nat} {bs : List Nat} (h : WK Pk w lo g bs) : ∃ A c, Blk w g 227 #[.slice A bs.length c, .bool false] ∧ w.ownsRow lo 5 1 (.slice A bs.length c) bs.length (u8s bs) ∧ bs.length ≤ c ∧ c ≤ maxLen ∧ (A = none → bs.length = 0) ∧
    ∀ k, (Value.slice A bs.length c).ownBlock = some k → ¬ Pk k := by
  obtain ⟨h1, h2, _, A, c, h3, h4, h5⟩ := h
  obtain ⟨A', c', hv, q1, q2, q3⟩ := OwnRow.form (w := w) (lo := lo) (hi := w.heap.size) ⟨h4, fun k hk => (h4.lt k hk).2⟩
  injection hv with e1 _ e2
  subst e1; subst e2
  exact ⟨A, c, h3, h4, q1, q2, fun h => (q3 h).1, h5⟩
/-- A writer that stood ahead of blocks that were made since. -/
theorem WK.of {Pk : Nat → Prop} {w w' : World} {lo g : Nat} {bs : List Nat} (h : WAt w lo g bs) (hP : ∀ k, Pk k → w.heap.size ≤ k) (b : Below w.heap.size w w') : WK Pk w' lo g bs := by
  obtain ⟨h1, h2, A, c, h3, h4⟩ := h
  refine ⟨h1, h2, fun hg => Nat.lt_irrefl _ (Nat.lt_of_lt_of_le h3.lt (hP g hg)), A, c, h3.below b h3.lt, ?_, fun k hk hp => Nat.lt_irrefl _ (Nat.lt_of_lt_of_le (h4.lt k hk).2 (hP k hp))⟩
  exact (OwnRow.fr (lo := lo) (hi := w.heap.size) ⟨h4, fun k hk => (h4.lt k hk).2⟩ (Fr.of_below b (fun _ => False)) (Nat.le_refl _) (fun _ _ _ h => h)).1
def NumK (Pk : Nat → Prop) (w : World) (lo g : Nat) (bs : List Nat) (e : Ending) (w' : World) : Prop := e = .returned (.tuple #[]) ∧ WK Pk w' lo g bs ∧ Below lo w w' ∧ Fr w.heap.size (fun k => ¬ Pk k) w w'
theorem NumK.trans {Pk : Nat → Prop} {w a b : World} {lo g : Nat} {bs cs : List Nat} (h : WK Pk a lo g bs ∧ Below lo w a ∧ Fr w.heap.size (fun k => ¬ Pk k) w a) (k : WK Pk b lo g cs ∧ Below lo a b ∧ Fr a.heap.size (fun k => ¬ Pk k) a b) :
    WK Pk b lo g cs ∧ Below lo w b ∧ Fr w.heap.size (fun k => ¬ Pk k) w b := ⟨k.1, h.2.1.trans k.2.1, h.2.2.trans (k.2.2.mono h.2.2.size (fun _ _ h => h))⟩
set_option maxRecDepth 100000 in
set_option maxHeartbeats 3200000 in
theorem num_k (Pk : Nat → Prop) (w : World) (lo g n : Nat) (bs : List Nat) (h : WK Pk w lo g bs) (hP : ∀ k, Pk k → k < w.heap.size) (hl : bs.length + (enc n).length ≤ 1099511627776) (hn : n ≤ 9223372036854775807) : Calls Tryd.prog 99 #[.pointer (some ⟨g, 0, none⟩), .int .i64 n] w (NumK Pk w lo g (bs ++ enc n)) := by
  obtain ⟨i0, hi0, hz0, hz1, hz2⟩ := info_parts8 u8_info
  have hn0 : ¬ (n : Int) < 0 := by omega
  have H0 := Lib.hid h
  have HP := Lib.hid (And.intro hP h.2.2.1)
  clear h hP
  go_enter Tryd.func99, Tryd.ntmps99
  go_wp2
  go_loopw [1] (fun v wr => ∃ (m : Nat) (bs' : List Nat), v = .int .i64 m ∧ m ≤ 9223372036854775807 ∧ bs' ++ enc m = bs ++ enc n ∧ WK Pk wr lo g bs' ∧ Below lo w wr ∧ Fr w.heap.size (fun k => ¬ Pk k) w wr) (fun v _ => (intOf v).toNat)
  case atStart => exact ⟨n, bs, rfl, hn, rfl, H0.out, Below.refl _ _, Fr.refl _ _ _⟩
  case round =>
    obtain ⟨m, bs', rfl, hm, hbs, hI⟩ := hrel
    have hlen : bs'.length + (enc m).length ≤ 1099511627776 := by
      have := congrArg List.length hbs
      simp only [List.length_append] at this
      omega
    have hep := enc_pos m
    have hlo := hI.1.1
    obtain ⟨A, c, hB, hown, hc1, hc2, hA, hok⟩ := hI.1.open_
    obtain ⟨k, hk⟩ : ∃ k, k = bs'.length := ⟨_, rfl⟩
    rw [← hk] at hB hown hc1 hA hok
    have HOK := Lib.hid hok
    clear hok
    have hkl : k < 1099511627776 := by omega
    have hg := hB.lt
    have cB := hB.cell
    have HBS := Lib.hid hbs
    have HI := Lib.hid hI
    have HL := Lib.hid hkl
    have HO := Lib.hid hlo
    have HB := Lib.hid hB
    have HO5 := Lib.hid hown
    have HK := Lib.hid hk
    clear hbs hI hlo hB hown hc1 hc2 hA hlen hep hkl hk
    by_cases hbig : (m : Int) > 127
    · obtain ⟨q, hq⟩ : ∃ q, q = m % 128 := ⟨_, rfl⟩
      obtain ⟨e, he⟩ : ∃ e, e = q + 128 := ⟨_, rfl⟩
      obtain ⟨d, hd⟩ : ∃ d, d = m / 128 := ⟨_, rfl⟩
      have hb1 : bits BinOp.and IntKind.i64 (m : Int) 127 = (q : Int) := by rw [i64_and127]; omega
      have hb2 : (q : Int) % 256 = q := by omega
      have hb3 : bits BinOp.or IntKind.u8 (q : Int) 128 = (e : Int) := by rw [u8_or128_right _ (by omega) (by omega)]; omega
      have hb4 : (m : Int) / 128 = (d : Int) := by omega
      have henc : enc m = e :: enc d := by rw [enc_big (by omega), he, hq, hd]
      have hdm : d < m := by omega
      have HE := Lib.hid henc
      clear hq he hd henc
      have hownW : (wr.alloc (.cells #[.int .u8 e] 5)).ownsRow lo 5 1 (.slice A k c) k (u8s bs') :=
        (OwnRow.fr (lo := lo) (hi := wr.heap.size) ⟨HO5.out, fun g hg => (HO5.out.lt g hg).2⟩ (Fr.of_below ((Below.refl wr.heap.size wr).alloc (Nat.le_refl _) _) (fun _ => False)) (Nat.le_refl _) (fun _ _ _ h => h)).1
      have hrd : Rd (wr.alloc (.cells #[.int .u8 e] 5)) 0 (wr.heap.size + 1) 1 (some ⟨wr.heap.size, 0, none⟩) 1 [.int .u8 e] :=
        ⟨rfl, fun _ => ⟨_, rfl, Nat.zero_le _, by simp, fun j u hu => by rw [Addr.add_mid, Nat.zero_add, (Blk.new wr 5 _).cell j]; simpa using hu⟩⟩
      have HW := Lib.hid (And.intro hownW hrd)
      clear hownW hrd
      go_wp2_with (at_builtin
                   refine wpList_append_any _ rfl (.tmp 15) (.tmp 20) 84 rfl lo 5 i0 _ 1 1 Tryd.underlying84 hi0 hz0 hz1 hz2 rfl (by decide) (.slice A k c) k (u8s bs') rfl HW.out.1
                     0 (wr.heap.size + 1) (some ⟨wr.heap.size, 0, none⟩) 1 1 [.int .u8 e] rfl HW.out.2 (by simp [Value.oneCell']) (by have := HL.out; simp only [maxLen]; omega) (by have := HL.out; omega) (by have := HO.out; simp; omega) ?_
                   intro v1 w1 hown1 hg1 hat1
                   have hO1 : OwnRow w1 lo w1.heap.size 5 1 v1 (k + 1) (u8s bs' ++ [.int .u8 e]) := ⟨hown1, fun g hg => (hown1.lt g hg).2⟩
                   have hB1 : Blk w1 g 227 #[.slice A k c, .bool false] := (HB.out.alloc (.cells #[.int .u8 e] 5)).grown hg1 (own_ne_blk HW.out.1 (HB.out.alloc _) (by decide))
                   have hb1 : Below lo wr w1 := ((Below.refl lo wr).alloc (by have := HO.out; omega) _).grown hg1 (by have := HO.out; simp; omega) (fun k hk => (HW.out.1.lt k hk).1)
                   obtain ⟨A1, c1, hv1, _⟩ := hO1.form
                   subst hv1
                   have cB1 := hB1.cell
                   have fB1 := hB1.frozen
                   have hfin : WK Pk (w1.setCell ⟨g, 0, none⟩ (.slice A1 (k + 1) c1)) lo g (bs' ++ [e]) := ⟨HO.out, by have := HL.out; have := HK.out; simp; omega, HP.out.2, A1, c1, by have h := hB1.set_ 0 (.slice A1 (k + 1) c1); rw [HK.out] at h ⊢; simpa using h, by have h := ownsRow_far (i := 0) (u := .slice A1 (k + 1) c1) hown1 hB1 (by decide); rw [HK.out] at h ⊢; simpa [u8s] using h, by
                     intro q hq hPq
                     have hq' : (Value.slice A1 (k + 1) c1).ownBlock = some q := by rw [show (bs' ++ [e]).length = k + 1 by rw [List.length_append, HK.out]; rfl] at hq; exact hq
                     rcases hat1 with h | h
                     · rw [h] at hq'; exact HOK.out q hq' hPq
                     · rw [h] at hq'; injection hq' with hq'; have h1 := HP.out.1 q hPq; have h2 := HI.out.2.2.size; simp at hq'; omega⟩
                   have hbf : Below lo wr (w1.setCell ⟨g, 0, none⟩ (.slice A1 (k + 1) c1)) := hb1.setCell (p := ⟨g, 0, none⟩) HO.out _
                   have hfr : Fr wr.heap.size (fun k => ¬ Pk k) wr (w1.setCell ⟨g, 0, none⟩ (.slice A1 (k + 1) c1)) :=
                     (((Fr.refl wr.heap.size (fun k => ¬ Pk k) wr).alloc (Nat.le_refl _) (.cells #[.int .u8 e] 5)).grown hg1 (by simp) (fun k hk => by
                       exact .inl (HOK.out k hk))).setCell (p := ⟨g, 0, none⟩) (.inl HP.out.2) _
                   have HF := Lib.hid (NumK.trans HI.out ⟨hfin, hbf, hfr⟩)
                   clear hfr hfin hbf hO1 hB1 hb1 hown1 hg1 hat1)
      go_roundw
      case rel => exact ⟨d, bs' ++ [e], by go_num, by omega, by rw [← HBS.out, HE.out]; simp, HF.out⟩
      case measure => simp [intOf]; omega
    · have hmod : (m : Int) % 256 = m := by omega
      have henc : enc m = [m] := enc_small (by omega)
      have HE := Lib.hid henc
      clear henc
      have hownW : (wr.alloc (.cells #[.int .u8 m] 5)).ownsRow lo 5 1 (.slice A k c) k (u8s bs') :=
        (OwnRow.fr (lo := lo) (hi := wr.heap.size) ⟨HO5.out, fun g hg => (HO5.out.lt g hg).2⟩ (Fr.of_below ((Below.refl wr.heap.size wr).alloc (Nat.le_refl _) _) (fun _ => False)) (Nat.le_refl _) (fun _ _ _ h => h)).1
      have hrd : Rd (wr.alloc (.cells #[.int .u8 m] 5)) 0 (wr.heap.size + 1) 1 (some ⟨wr.heap.size, 0, none⟩) 1 [.int .u8 m] :=
        ⟨rfl, fun _ => ⟨_, rfl, Nat.zero_le _, by simp, fun j u hu => by rw [Addr.add_mid, Nat.zero_add, (Blk.new wr 5 _).cell j]; simpa using hu⟩⟩
      have HW := Lib.hid (And.intro hownW hrd)
      clear hownW hrd
      go_wp2_with (at_builtin
                   refine wpList_append_any _ rfl (.tmp 30) (.tmp 33) 84 rfl lo 5 i0 _ 1 1 Tryd.underlying84 hi0 hz0 hz1 hz2 rfl (by decide) (.slice A k c) k (u8s bs') rfl HW.out.1
                     0 (wr.heap.size + 1) (some ⟨wr.heap.size, 0, none⟩) 1 1 [.int .u8 m] rfl HW.out.2 (by simp [Value.oneCell']) (by have := HL.out; simp only [maxLen]; omega) (by have := HL.out; omega) (by have := HO.out; simp; omega) ?_
                   intro v1 w1 hown1 hg1 hat1
                   have hO1 : OwnRow w1 lo w1.heap.size 5 1 v1 (k + 1) (u8s bs' ++ [.int .u8 m]) := ⟨hown1, fun g hg => (hown1.lt g hg).2⟩
                   have hB1 : Blk w1 g 227 #[.slice A k c, .bool false] := (HB.out.alloc (.cells #[.int .u8 m] 5)).grown hg1 (own_ne_blk HW.out.1 (HB.out.alloc _) (by decide))
                   have hb1 : Below lo wr w1 := ((Below.refl lo wr).alloc (by have := HO.out; omega) _).grown hg1 (by have := HO.out; simp; omega) (fun k hk => (HW.out.1.lt k hk).1)
                   obtain ⟨A1, c1, hv1, _⟩ := hO1.form
                   subst hv1
                   have cB1 := hB1.cell
                   have fB1 := hB1.frozen
                   have hfin : WK Pk (w1.setCell ⟨g, 0, none⟩ (.slice A1 (k + 1) c1)) lo g (bs' ++ [m]) := ⟨HO.out, by have := HL.out; have := HK.out; simp; omega, HP.out.2, A1, c1, by have h := hB1.set_ 0 (.slice A1 (k + 1) c1); rw [HK.out] at h ⊢; simpa using h, by have h := ownsRow_far (i := 0) (u := .slice A1 (k + 1) c1) hown1 hB1 (by decide); rw [HK.out] at h ⊢; simpa [u8s] using h, by
                     intro q hq hPq
                     have hq' : (Value.slice A1 (k + 1) c1).ownBlock = some q := by rw [show (bs' ++ [m]).length = k + 1 by rw [List.length_append, HK.out]; rfl] at hq; exact hq
                     rcases hat1 with h | h
                     · rw [h] at hq'; exact HOK.out q hq' hPq
                     · rw [h] at hq'; injection hq' with hq'; have h1 := HP.out.1 q hPq; have h2 := HI.out.2.2.size; simp at hq'; omega⟩
                   have hbf : Below lo wr (w1.setCell ⟨g, 0, none⟩ (.slice A1 (k + 1) c1)) := hb1.setCell (p := ⟨g, 0, none⟩) HO.out _
                   have hfr : Fr wr.heap.size (fun k => ¬ Pk k) wr (w1.setCell ⟨g, 0, none⟩ (.slice A1 (k + 1) c1)) :=
                     (((Fr.refl wr.heap.size (fun k => ¬ Pk k) wr).alloc (Nat.le_refl _) (.cells #[.int .u8 m] 5)).grown hg1 (by simp) (fun k hk => by
                       exact .inl (HOK.out k hk))).setCell (p := ⟨g, 0, none⟩) (.inl HP.out.2) _
                   have HF := Lib.hid (NumK.trans HI.out ⟨hfin, hbf, hfr⟩)
                   clear hfr hfin hbf hO1 hB1 hb1 hown1 hg1 hat1)
      go_end0
      have hf := HF.out
      rw [← HE.out, HBS.out] at hf
      exact ⟨rfl, hf⟩
theorem ownsRow_kept {w w' : World} {base n : Nat} {v : Value} {xs : List Value} (h : w.ownsRow base 5 1 v n xs) (f : Fr w.heap.size (fun k => ¬ v.ownBlock = some k) w w') : w'.ownsRow base 5 1 v n xs := by
  refine ⟨h.1, ?_⟩
  rcases h.2 with h7 | ⟨k, cap, cur, he, hb', hh, hr⟩
  · exact .inl h7
  · have hk : Blk w k 5 cur := hh
    exact .inr ⟨k, cap, cur, he, hb', hk.fr f hk.lt (fun hn => hn (by rw [he]; simp [Value.ownBlock])), hr⟩
set_option maxRecDepth 100000 in
set_option maxHeartbeats 1600000 in
theorem wbytes_any (w0 w : World) (lo g c : Nat) (bs xs : List Nat) (A : Option Addr) (h : WAt w0 lo g bs) (b : Below w0.heap.size w0 w) (ho : w.ownsRow w0.heap.size 5 1 (.slice A xs.length c) xs.length (u8s xs))
    (hl : bs.length + (enc xs.length).length + xs.length ≤ 1099511627776) : Calls Tryd.prog 131 #[.pointer (some ⟨g, 0, none⟩), .slice A xs.length c] w fun e w' => e = .returned (.tuple #[]) ∧ WAt w' lo g (bs ++ enc xs.length ++ xs) ∧ Below lo w w' := by
  obtain ⟨i0, hi0, hz0, hz1, hz2⟩ := info_parts8 u8_info
  have hWK := WK.of (Pk := fun k => (Value.slice A xs.length c).ownBlock = some k) h (fun k hk => (ho.lt k hk).1) b
  have hnum := num_k (fun k => (Value.slice A xs.length c).ownBlock = some k) w lo g xs.length bs hWK (fun k hk => (ho.lt k hk).2) (by omega) (by omega)
  obtain ⟨n, hn⟩ : ∃ n, n = xs.length := ⟨_, rfl⟩
  have HLL := Lib.hid (And.intro hl (And.intro ho hn))
  have HNUM := Lib.hid hnum
  rw [← hn] at HNUM ⊢
  clear hl h b ho hnum hWK hn
  go_enter Tryd.func131, Tryd.ntmps131
  go_wp2_with (first
               | (at_builtin
                  refine wpList_append_any _ rfl (.tmp 12) (.tmp 13) 84 rfl lo 5 i0 _ 1 1 Tryd.underlying84 hi0 hz0 hz1 hz2 rfl (by decide) (.slice A1 k c1) k (u8s (bs ++ enc n)) rfl HO5.out
                    0 w1.heap.size A n c (u8s xs) rfl HX.out (u8s_oneCell xs) (by have := HKN.out; simp only [maxLen]; omega) (by have := HKN.out; omega) (by have := HO.out; have := HB.out.lt; omega) ?_
                  intro v2 w2 hown2 hg2 hat2
                  have hO2 : OwnRow w2 lo w2.heap.size 5 1 v2 (k + n) (u8s (bs ++ enc n) ++ u8s xs) := ⟨hown2, fun g hg => (hown2.lt g hg).2⟩
                  have hB2 : Blk w2 g 227 #[.slice A1 k c1, .bool false] := HB.out.grown hg2 (own_ne_blk HO5.out HB.out (by decide))
                  have hb2 : Below lo w1 w2 := (Below.refl lo w1).grown hg2 (by have := HO.out; have := HB.out.lt; omega) (fun k hk => (HO5.out.lt k hk).1)
                  obtain ⟨A2, c2, hv2, _⟩ := hO2.form
                  subst hv2
                  have cB2 := hB2.cell
                  have fB2 := hB2.frozen
                  have hlen : (bs ++ enc n ++ xs).length = k + n := by rw [List.length_append, ← HK.out, ← HLL.out.2.2]
                  have hfin : WAt (w2.setCell ⟨g, 0, none⟩ (.slice A2 (k + n) c2)) lo g (bs ++ enc n ++ xs) := ⟨HO.out, by rw [hlen]; exact HKN.out, A2, c2, by have h := hB2.set_ 0 (.slice A2 (k + n) c2); rw [hlen]; simpa using h, by
                    have h := ownsRow_far (i := 0) (u := .slice A2 (k + n) c2) hown2 hB2 (by decide)
                    rw [hlen]
                    simpa [u8s] using h⟩
                  have hbf : Below lo w1 (w2.setCell ⟨g, 0, none⟩ (.slice A2 (k + n) c2)) := hb2.setCell (p := ⟨g, 0, none⟩) HO.out _
                  have HF := Lib.hid (And.intro hfin (HN.out.trans hbf))
                  clear hfin hbf hO2 hB2 hb2 hown2 hg2 hat2 hlen)
               | (go_at_call 99
                  refine HNUM.out.mono ?_
                  rintro e w1 ⟨rfl, h1, b1, f1⟩
                  have HN := Lib.hid b1
                  rw [HLL.out.2.2] at f1
                  have hx := ownsRow_kept HLL.out.2.1 f1
                  have hx' := Rd.of_own hx (fun g hg => (hx.lt g hg).2)
                  rw [← HLL.out.2.2] at hx'
                  have HX := Lib.hid (hx'.wider (Nat.zero_le _) (Nat.le_refl _))
                  obtain ⟨A1, c1, hB, hown, hc1, hc2, hA, _⟩ := h1.open_
                  have hlo := h1.1
                  obtain ⟨k, hk⟩ : ∃ k, k = (bs ++ enc n).length := ⟨_, rfl⟩
                  have HKN := Lib.hid (show k + n ≤ 1099511627776 by have h1 := HLL.out.1; rw [← HLL.out.2.2] at h1; rw [hk, List.length_append]; omega)
                  rw [← hk] at hB hown hc1 hA
                  have hg := hB.lt
                  have cB := hB.cell
                  have HO := Lib.hid hlo
                  have HB := Lib.hid hB
                  have HO5 := Lib.hid hown
                  have HK := Lib.hid hk
                  clear hB hown hc1 hc2 hA b1 f1 h1 hlo hk hx hx'))
  go_end0
  exact ⟨rfl, HF.out.1, HF.out.2⟩
end Go.Proofs.YtnlncfjibbdimaaDoor
namespace Go.Proofs.YtnlncfjibbdimaaDoor
open Go.RowKit
set_option linter.unusedSimpArgs false
set_option linter.unusedVariables false
def sumStep (s c : Nat) : Nat := (s ^^^ c) * 16777619 % 4294967296
/-- The sum of bytes. -/
def sumN (bs : List Nat) : Nat := bs.foldl sumStep 2166136261
theorem sumN_take {bs : List Nat} {k x : Nat} (h : bs[k]? = some x) : sumN (bs.take (k + 1)) = sumStep (sumN (bs.take k)) x := by
  unfold sumN
  rw [take_snoc h, List.foldl_append, List.foldl_cons, List.foldl_nil]
theorem sumN_lt (bs : List Nat) : sumN bs < 4294967296 := by
  unfold sumN
  have h : ∀ (l : List Nat) (s : Nat), s < 4294967296 → l.foldl sumStep s < 4294967296 := fun l => by
    induction l with
    | nil => intro s h; exact h
    | cons a l ih => intro s _; exact ih _ (Nat.mod_lt _ (by omega))
  exact h bs _ (by omega)
set_option maxRecDepth 100000 in
set_option maxHeartbeats 1600000 in
theorem wsum_any (w : World) (hi c : Nat) (A : Option Addr) (bs : List Nat) (hr : Rd w 0 hi 1 A bs.length (u8s bs)) (hl : bs.length ≤ 140737488355328) (h256 : ∀ x ∈ bs, x < 256) :
    Calls Tryd.prog 160 #[.slice A bs.length c] w fun e w' => e = .returned (.int .u32 (sumN bs)) ∧ w' = w := by
  obtain ⟨n, hn⟩ : ∃ n, n = bs.length := ⟨_, rfl⟩
  have HR := Lib.hid (And.intro hr (And.intro h256 hn))
  rw [← hn] at hl ⊢
  clear hr h256 hn
  go_enter Tryd.func160, Tryd.ntmps160
  go_wp2_with (fail)
  go_loop [3, 8] (fun s i => ∃ (k sN : Nat), k ≤ n ∧ i = .int .i64 k ∧ s = .int .u32 sN ∧ sN = sumN (bs.take k)) (fun _ i => n - (intOf i).toNat)
  case atStart => exact ⟨0, 2166136261, Nat.zero_le _, rfl, rfl, rfl⟩
  case round =>
    obtain ⟨k, sN, hk, rfl, rfl, hs⟩ := hrel
    by_cases hlt : k < n
    · obtain ⟨x, hx⟩ : ∃ x, bs[k]? = some x := ⟨_, List.getElem?_eq_getElem (by rw [← HR.out.2.2]; exact hlt)⟩
      obtain ⟨b, o, rfl⟩ := HR.out.1.addr (by rw [← HR.out.2.2]; omega)
      have hck := HR.out.1.at8 hx
      have hx256 := HR.out.2.1 x (List.mem_of_getElem? hx)
      have hs32 : sN < 4294967296 := by rw [hs]; exact sumN_lt _
      have hxor := u32_xor_nat sN x hs32 (by omega)
      obtain ⟨m, hm⟩ : ∃ m : Nat, m = sumN (bs.take (k + 1)) := ⟨_, rfl⟩
      have hmul : IntKind.u32.wrap (((sN ^^^ x : Nat) : Int) * 16777619) = (m : Int) := by
        rw [hm, sumN_take hx, ← hs, sumStep]
        simp [IntKind.wrap, IntKind.bits, IntKind.signed]
      have HM := Lib.hid hm
      clear hx hs hm
      go_wp2_with (fail)
      go_round
      case rel => exact ⟨k + 1, m, by omega, by go_num, rfl, HM.out⟩
      case measure => simp [intOf]; omega
    · obtain rfl : k = n := by omega
      have hall : bs.take k = bs := by rw [HR.out.2.2, List.take_length]
      rw [hall] at hs
      have HS := Lib.hid hs
      clear hs hall
      go_wp2_with (fail)
      go_ret
      exact ⟨by rw [← HS.out]; rfl, rfl⟩
set_option maxRecDepth 100000 in
set_option maxHeartbeats 1600000 in
theorem wequal_any (w : World) (h1 h2 c d : Nat) (A B : Option Addr) (xs ys : List Nat) (hx : Rd w 0 h1 1 A xs.length (u8s xs)) (hy : Rd w 0 h2 1 B ys.length (u8s ys)) (hl : xs.length ≤ 140737488355332) :
    Calls Tryd.prog 163 #[.slice A xs.length c, .slice B ys.length d] w fun e w' => e = .returned (.bool (decide (xs = ys))) ∧ Below w.heap.size w w' := by
  obtain ⟨n, hn⟩ : ∃ n, n = xs.length := ⟨_, rfl⟩
  obtain ⟨m, hm⟩ : ∃ m, m = ys.length := ⟨_, rfl⟩
  have HR := Lib.hid (And.intro hx (And.intro hy (And.intro hn hm)))
  rw [← hn] at hl ⊢
  rw [← hm]
  clear hx hy hn hm
  go_enter Tryd.func163, Tryd.ntmps163
  by_cases hnm : (n : Int) = m
  · have hnm' : n = m := by omega
    subst hnm'
    go_wp2_with (fail)
    go_loopw [13] (fun i wr => ∃ (k : Nat), k ≤ n ∧ i = .int .i64 k ∧ xs.take k = ys.take k ∧ Below w.heap.size w wr) (fun i _ => n - (intOf i).toNat)
    case atStart => exact ⟨0, Nat.zero_le _, rfl, rfl, Below.refl _ _⟩
    case round =>
      obtain ⟨k, hk, rfl, he, hb⟩ := hrel
      have HB := Lib.hid (And.intro hb he)
      clear hb he
      by_cases hlt : k < n
      · obtain ⟨x, hx⟩ : ∃ x, xs[k]? = some x := ⟨_, List.getElem?_eq_getElem (by rw [← HR.out.2.2.1]; exact hlt)⟩
        obtain ⟨y, hy⟩ : ∃ y, ys[k]? = some y := ⟨_, List.getElem?_eq_getElem (by rw [← HR.out.2.2.2]; exact hlt)⟩
        obtain ⟨b, o, rfl⟩ := HR.out.1.addr (by rw [← HR.out.2.2.1]; omega)
        obtain ⟨b', o', rfl⟩ := HR.out.2.1.addr (by rw [← HR.out.2.2.2]; omega)
        have c1 := HR.out.1.at8 hx
        have c2 := HR.out.2.1.at8 hy
        have g1 := (HB.out.1.cell (World.block_lt_of_cell? w _ c1)).trans c1
        have g2 := (HB.out.1.cell (World.block_lt_of_cell? w _ c2)).trans c2
        have hkn : (k : Int) < n := by omega
        have HX := Lib.hid (And.intro hx hy)
        clear hx hy c1 c2
        go_upto_region 6 with (fail)
        by_cases hxy : (x : Int) = y
        · go_region_held3 (fun w' => w'.cell? ⟨b, o + k, none⟩ = some (.int .u8 x) ∧ w'.cell? ⟨b', o' + k, none⟩ = some (.int .u8 y)) (go_keep) (fail)
          go_wp2_with (fail)
          go_roundw
          case rel => exact ⟨k + 1, by omega, by go_num, by rw [take_snoc HX.out.1, take_snoc HX.out.2, HB.out.2, show x = y by omega], HB.out.1.drew⟩
          case measure => simp [intOf]; omega
        · go_region_held3 (fun w' => w'.cell? ⟨b, o + k, none⟩ = some (.int .u8 x) ∧ w'.cell? ⟨b', o' + k, none⟩ = some (.int .u8 y)) (go_keep) (fail)
          go_wp2_with (fail)
          go_ret
          have hne : ¬ xs = ys := fun h => by
            have h1 := HX.out.1
            rw [h, HX.out.2] at h1
            injection h1 with h1
            omega
          exact ⟨by rw [decide_eq_false hne]; rfl, HB.out.1.drew⟩
      · obtain rfl : k = n := by omega
        have heq : xs = ys := by
          have h := HB.out.2
          rwa [HR.out.2.2.1, List.take_length, ← HR.out.2.2.1, HR.out.2.2.2, List.take_length] at h
        have HE := Lib.hid heq
        clear heq
        go_wp2_with (fail)
        go_ret
        exact ⟨by rw [decide_eq_true HE.out]; rfl, HB.out.1⟩
  · go_wp2_with (fail)
    go_ret
    have hne : ¬ xs = ys := fun h => hnm (by rw [HR.out.2.2.1, HR.out.2.2.2, h])
    exact ⟨by rw [decide_eq_false hne]; rfl, Below.refl _ _⟩
theorem grow_run (w : World) (n : Nat) (h0 : 0 < n) (hl : n ≤ 140737488355328) : ∃ W cp, (Builtin.append_ #[84, 3] 84 #[.slice none 0 0, .int .i64 (n : Int)]).run Tryd.prog w = .ok (.slice (some ⟨w.heap.size, 0, none⟩) n cp) W ∧
    OwnB W w.heap.size (.slice (some ⟨w.heap.size, 0, none⟩) 0 cp) [] ∧ Below w.heap.size w W := by
  obtain ⟨i0, hi0, hz0, hz1, hz2⟩ := info_parts8 u8_info
  have hr := Lib.run_append_nil_zeros (P := Tryd.prog) w 84 3 84 5 i0 _ .i64 .i64 Tryd.underlying84 Tryd.underlying3 hi0 hz0 n h0 (by omega) (by omega) (by rw [hz2]; omega)
  refine ⟨_, _, hr, ⟨⟨_, _, rfl⟩, by simp, ?_⟩, ((Below.refl w.heap.size w).drew).alloc (Nat.le_refl _) _⟩
  refine World.ownsRow_made w.drew _ _ (Nat.le_refl _) (grownCap_le_maxLen w n 0 5 (by simp only [maxLen]; omega)) ?_
  have hge := grownCap_ge w n 0 5
  rw [Array.size_append, size_zeroCells, size_zeroCells]
  have : (Value.int .u8 0).cells.size = 1 := rfl
  rw [this]
  omega
set_option maxRecDepth 100000 in
set_option maxHeartbeats 1600000 in
theorem wgrow_any (w : World) (n : Nat) (h0 : 0 < n) (hl : n ≤ 140737488355328) :
    Calls Tryd.prog 171 #[.slice none 0 0, .int .i64 n] w fun e w' => ∃ b c, e = .returned (.slice (some ⟨b, 0, none⟩) 0 c) ∧ OwnB w' w.heap.size (.slice (some ⟨b, 0, none⟩) 0 c) [] ∧ Below w.heap.size w w' := by
  obtain ⟨W, cp, hr, ho, hb⟩ := grow_run w n h0 hl
  have HO := Lib.hid (And.intro ho hb)
  have hn0 : (n : Int) > 0 := by omega
  have hn1 : ¬ (n : Int) < 0 := by omega
  clear ho hb
  go_enter Tryd.func171, Tryd.ntmps171
  go_wp2_with (at_builtin
               refine Lib.wpList_append_run _ rfl (.tmp 20) (.tmp 21) 84 3 rfl _ _ rfl rfl _ _ hr ?_)
  go_ret
  exact ⟨w.heap.size, cp, rfl, HO.out.1, HO.out.2⟩
set_option maxRecDepth 100000 in
set_option maxHeartbeats 3200000 in
theorem wconcat_any (w : World) (b c d h1 h2 : Nat) (A B : Option Addr) (xs ys : List Nat) (g0 : w.cell? ⟨b, 0, none⟩ = some (.slice A xs.length c)) (g1 : w.cell? ⟨b, 1, none⟩ = some (.slice B ys.length d))
    (hx : Rd w 0 h1 1 A xs.length (u8s xs)) (hh1 : h1 ≤ w.heap.size) (hy : Rd w 0 h2 1 B ys.length (u8s ys)) (hh2 : h2 ≤ w.heap.size) (hpos : 0 < xs.length + ys.length) (hl : xs.length + ys.length ≤ 140737488355328) :
    Calls Tryd.prog 161 #[.slice (some ⟨b, 0, none⟩) 2 2] w (NewB w (xs ++ ys)) := by
  have hb := World.block_lt_of_cell? w _ g0
  obtain ⟨n, hn⟩ : ∃ n, n = xs.length := ⟨_, rfl⟩
  obtain ⟨m, hm⟩ : ∃ m, m = ys.length := ⟨_, rfl⟩
  have HR := Lib.hid (And.intro hx (And.intro hy (And.intro hn (And.intro hm (And.intro hh1 hh2)))))
  rw [← hn] at g0 hpos hl
  rw [← hm] at g1 hpos hl
  have HG := Lib.hid (show ∀ W, Below w.heap.size w W → W.cell? ⟨b, 0, none⟩ = some (.slice A n c) ∧ W.cell? ⟨b, 1, none⟩ = some (.slice B m d) from fun W f => ⟨(f.cell (p := ⟨b, 0, none⟩) hb).trans g0, (f.cell (p := ⟨b, 1, none⟩) hb).trans g1⟩)
  clear hx hy hn hm hh1 hh2
  go_enter Tryd.func161, Tryd.ntmps161
  go_wp2_with (fail)
  go_loop [3, 11] (fun s i => ∃ (k t : Nat), i = .int .i64 k ∧ s = .int .i64 t ∧ (k = 0 ∧ t = 0 ∨ k = 1 ∧ t = n ∨ k = 2 ∧ t = n + m)) (fun _ i => 2 - (intOf i).toNat)
  case atStart => exact ⟨0, 0, rfl, rfl, .inl ⟨rfl, rfl⟩⟩
  case round =>
    obtain ⟨k, t, rfl, rfl, hk⟩ := hrel
    rcases hk with ⟨rfl, rfl⟩ | ⟨rfl, rfl⟩ | ⟨rfl, rfl⟩
    · go_wp2_with (fail)
      go_round
      case rel => exact ⟨1, n, by go_num, by go_num, .inr (.inl ⟨rfl, rfl⟩)⟩
      case measure => simp [intOf]
    · go_wp2_with (fail)
      go_round
      case rel => exact ⟨2, t + m, by go_num, by go_num, .inr (.inr ⟨rfl, rfl⟩)⟩
      case measure => simp [intOf]
    · have hk := fun W => wgrow_any W (n + m) hpos hl
      obtain ⟨s, hs⟩ : ∃ s, s = n + m := ⟨_, rfl⟩
      rw [← hs] at hk ⊢
      have HS := Lib.hid hs
      have HK := Lib.hid hk
      clear g0 g1 hk hs
      go_upto_region 10 with (first | (go_at_call 171; refine (HK.out _).mono ?_; rintro e w1 ⟨b1, c1, rfl, o1, f1⟩; have H1 := Lib.hid (And.intro o1 f1); clear o1 f1) | fail)
      go_wp2_with (fail)
      go_loopw [6, 27] (fun v i wr => ∃ (k : Nat) (A' : Option Addr) (c' : Nat) (zs : List Nat), i = .int .i64 k ∧ v = .slice A' zs.length c' ∧ OwnB wr w.heap.size (.slice A' zs.length c') zs ∧ Below w.heap.size w wr ∧ (k = 0 ∧ zs = [] ∨ k = 1 ∧ zs = xs ∨ k = 2 ∧ zs = xs ++ ys)) (fun _ i _ => 2 - (intOf i).toNat)
      case atStart => exact ⟨0, some ⟨b1, 0, none⟩, c1, [], rfl, rfl, H1.out.1, H1.out.2, .inl ⟨rfl, rfl⟩⟩
      case round =>
        obtain ⟨k, A', c', zs, rfl, rfl, hO, hB, hk⟩ := hrel
        have hgw := HG.out wr hB
        have g0 := hgw.1
        have g1 := hgw.2
        have hxw := HR.out.1.fr (Fr.of_below hB (fun _ => False)) HR.out.2.2.2.2.1 (fun _ _ _ h => h)
        have hyw := HR.out.2.1.fr (Fr.of_below hB (fun _ => False)) HR.out.2.2.2.2.2 (fun _ _ _ h => h)
        have HW := Lib.hid (And.intro hO (And.intro hB (And.intro hxw hyw)))
        have HL := Lib.hid (show xs.length + ys.length ≤ 140737488355328 by rw [← HR.out.2.2.1, ← HR.out.2.2.2.1]; exact hl)
        clear hO hB hgw hxw hyw
        rcases hk with ⟨rfl, rfl⟩ | ⟨rfl, rfl⟩ | ⟨rfl, rfl⟩
        · go_wp2_with (at_builtin
                       refine law_append8 (.tmp 31) (.tmp 32) w.heap.size 0 h1 (.slice A' 0 c') [] xs A c rfl rfl rfl HW.out.1 (by rw [← HR.out.2.2.1]; rfl) HW.out.2.2.1 (by have := HL.out; simp; omega) HW.out.2.1.size ?_
                       simp only [List.length_nil, Nat.zero_add, List.nil_append]
                       intro A2 c2 W2 o2 f2
                       have H2 := Lib.hid (And.intro o2 (HW.out.2.1.trans f2.1))
                       clear o2 f2)
          go_roundw
          case rel => exact ⟨1, A2, c2, xs, by go_num, rfl, H2.out.1, H2.out.2, .inr (.inl ⟨rfl, rfl⟩)⟩
          case measure => simp [intOf]
        · go_wp2_with (at_builtin
                       refine law_append8 (.tmp 31) (.tmp 32) w.heap.size 0 h2 (.slice A' zs.length c') zs ys B d rfl rfl rfl HW.out.1 (by rw [← HR.out.2.2.2.1]; rfl) HW.out.2.2.2 HL.out HW.out.2.1.size ?_
                       intro A2 c2 W2 o2 f2
                       have H2 := Lib.hid (And.intro o2 (HW.out.2.1.trans f2.1))
                       clear o2 f2)
          go_roundw
          case rel => exact ⟨2, A2, c2, zs ++ ys, by go_num, by rw [List.length_append], by rw [List.length_append]; exact H2.out.1, H2.out.2, .inr (.inr ⟨rfl, rfl⟩)⟩
          case measure => simp [intOf]
        · go_wp2_with (fail)
          go_ret
          exact ⟨_, rfl, HW.out.1, HW.out.2.1⟩
/-- The four bytes of a sum. -/
def be4 (s : Nat) : List Nat := [s / 16777216 % 256, s / 65536 % 256, s / 256 % 256, s % 256]
/-- Bytes and their sum. -/
def sealN (bs : List Nat) : List Nat := bs ++ be4 (sumN bs)
theorem shr_u32 (s p k : Nat) (hk : k ≤ 32) (hp : p = s / 2 ^ k) (W : World) : (binOp .shr 241 (.int .u32 (s : Int)) (.int .u64 (k : Int))).run Tryd.prog W = .ok (.int .u32 (p : Int)) W := by
  rw [binOp_shr, shift_shr_any _ _ _ _ (by omega), hp]
  have : min ((k : Int).toNat) IntKind.u32.bits = k := by simp [IntKind.bits]; omega
  rw [this]
  simp [Sem.run_pure]
set_option maxRecDepth 100000 in
set_option maxHeartbeats 1600000 in
theorem wseal_any (w : World) (hi c : Nat) (A : Option Addr) (bs : List Nat) (hr : Rd w 0 hi 1 A bs.length (u8s bs)) (hhi : hi ≤ w.heap.size) (hl : bs.length + 4 ≤ 140737488355328) (h256 : ∀ x ∈ bs, x < 256) :
    Calls Tryd.prog 132 #[.slice A bs.length c] w (NewB w (sealN bs)) := by
  have k160 := wsum_any w hi c A bs hr (by omega) h256
  obtain ⟨s, hs⟩ : ∃ s, s = sumN bs := ⟨_, rfl⟩
  have hs32 : s < 4294967296 := by rw [hs]; exact sumN_lt bs
  rw [← hs] at k160
  obtain ⟨n, hn⟩ : ∃ n, n = bs.length := ⟨_, rfl⟩
  have HK := Lib.hid k160
  have H := Lib.hid (And.intro hr (And.intro hhi (And.intro hl (And.intro hn hs))))
  obtain ⟨p1, hp1⟩ : ∃ p, p = s / 16777216 := ⟨_, rfl⟩
  obtain ⟨p2, hp2⟩ : ∃ p, p = s / 65536 := ⟨_, rfl⟩
  obtain ⟨p3, hp3⟩ : ∃ p, p = s / 256 := ⟨_, rfl⟩
  have e1 := shr_u32 s p1 24 (by omega) (by rw [hp1])
  have e2 := shr_u32 s p2 16 (by omega) (by rw [hp2])
  have e3 := shr_u32 s p3 8 (by omega) (by rw [hp3])
  simp only [Int.cast_ofNat_Int] at e1 e2 e3
  rw [← hn] at HK ⊢
  clear k160 hr hhi hl hs hn
  go_enter Tryd.func132, Tryd.ntmps132
  go_upto_region 2 with (first | (go_at_call 160; refine HK.out.mono ?_; rintro e w1 ⟨rfl, hw⟩; subst w1) | fail)
  go_wp2_with (fail)
  have hcs : (#[.int .u8 ((s : Int) / 16777216), .int .u8 ((s : Int) / 65536 % 256), .int .u8 ((s : Int) / 256 % 256), .int .u8 ((s : Int) % 256)] : Array Value) = (u8s (be4 s)).toArray := by
    have e : (s : Int) / 16777216 = (s : Int) / 16777216 % 256 := by omega
    rw [e]
    simp [u8s, be4]
  rw [hcs, H.out.2.2.2.1]
  have hbW : Below w.heap.size w ((w.alloc (.cells (u8s (be4 s)).toArray 5)).alloc (.cells #[.slice A bs.length c, .slice (some ⟨w.heap.size, 0, none⟩) 4 4] 84)) := ((Below.refl w.heap.size w).alloc (Nat.le_refl _) _).alloc (by simp) _
  have hy : Rd ((w.alloc (.cells (u8s (be4 s)).toArray 5)).alloc (.cells #[.slice A bs.length c, .slice (some ⟨w.heap.size, 0, none⟩) 4 4] 84)) 0 (w.heap.size + 1) 1 (some ⟨w.heap.size, 0, none⟩) (be4 s).length (u8s (be4 s)) :=
    ⟨by simp [u8s], fun _ => ⟨_, rfl, Nat.zero_le _, Nat.lt_succ_self _, fun j u hu => by
      rw [Addr.add_mid, Nat.zero_add]
      have := ((Blk.new w 5 (u8s (be4 s)).toArray).alloc (.cells #[.slice A bs.length c, .slice (some ⟨w.heap.size, 0, none⟩) 4 4] 84)).cell j
      rw [this]
      simpa using hu⟩⟩
  have hg := Blk.new (w.alloc (.cells (u8s (be4 s)).toArray 5)) 84 #[.slice A bs.length c, .slice (some ⟨w.heap.size, 0, none⟩) 4 4]
  have hsz : (w.alloc (.cells (u8s (be4 s)).toArray 5)).heap.size = w.heap.size + 1 := by simp
  rw [hsz] at hg
  have k161 := wconcat_any _ (w.heap.size + 1) c 4 hi (w.heap.size + 1) A (some ⟨w.heap.size, 0, none⟩) bs (be4 s) (hg.cell 0) (hg.cell 1) (H.out.1.fr (Fr.of_below hbW (fun _ => False)) H.out.2.1 (fun _ _ _ h => h)) (Nat.le_trans H.out.2.1 hbW.size) hy (by simp) (by simp [be4]) (by have := H.out.2.2.1; simp [be4]; omega)
  refine k161.mono ?_
  rintro e w2 ⟨v2, rfl, o2, b2⟩
  have hfin : NewB w (sealN bs) (.returned v2) w2 := by
    unfold sealN
    rw [← H.out.2.2.2.2]
    exact ⟨v2, rfl, ⟨o2.1, o2.2.1, ownsRow_base o2.2.2 hbW.size⟩, hbW.trans (b2.mono hbW.size)⟩
  have HF := Lib.hid hfin
  clear hfin b2 o2 hg hy hbW hsz k161
  go_wp2_with (fail)
  go_ret
  exact HF.out
end Go.Proofs.YtnlncfjibbdimaaDoor
namespace Go.Proofs.YtnlncfjibbdimaaDoor
open Go.RowKit
set_option linter.unusedSimpArgs false
set_option linter.unusedVariables false
theorem be4_length (s : Nat) : (be4 s).length = 4 := rfl
theorem sealN_length (bs : List Nat) : (sealN bs).length = bs.length + 4 := by rw [sealN, List.length_append, be4_length]
/-- What Open answers. -/
def OpenPost (bs : List Nat) (a2 a8 : Addr) (w : World) (e : Ending) (w' : World) : Prop :=
  Below w.heap.size w w' ∧
  ((bs.length < 4 ∧ e = .returned (.tuple #[.slice none 0 0, errv a2])) ∨
   (4 ≤ bs.length ∧ ¬ sealN (bs.take (bs.length - 4)) = bs ∧ e = .returned (.tuple #[.slice none 0 0, errv a8])) ∨
   (∃ xs A' c', bs = sealN xs ∧ e = .returned (.tuple #[.slice A' xs.length c', .nilIface]) ∧ w'.ownsRow w.heap.size 5 1 (.slice A' xs.length c') xs.length (u8s xs)))
set_option maxRecDepth 100000 in
set_option maxHeartbeats 3200000 in
theorem wopen_any (w : World) (hi c : Nat) (A : Option Addr) (bs : List Nat) (hr : Rd w 0 hi 1 A bs.length (u8s bs)) (hhi : hi ≤ w.heap.size) (hl : bs.length ≤ 140737488351232) (hc : bs.length ≤ c ∧ c ≤ 9223372036854775807) (h256 : ∀ x ∈ bs, x < 256)
    (a2 a8 : Addr) (h2 : w.cell? ⟨2, 0, none⟩ = some (errv a2)) (h8 : w.cell? ⟨8, 0, none⟩ = some (errv a8)) : Calls Tryd.prog 135 #[.slice A bs.length c] w (OpenPost bs a2 a8 w) := by
  have h08 := World.block_lt_of_cell? w _ h8
  simp only at h08
  by_cases h4 : bs.length < 4
  · have hlt : (bs.length : Int) - 4 < 0 := by omega
    have HL := Lib.hid h4
    clear hr hhi h256 h4
    go_enter Tryd.func135, Tryd.ntmps135
    go_upto_region 3 with (fail)
    go_region_held3 (fun w' => w'.cell? ⟨2, 0, none⟩ = some (errv a2)) (go_keep) (fail)
    go_wp2_with (fail)
    go_ret2
    exact ⟨(Below.refl _ _).drew, .inl ⟨HL.out, rfl⟩⟩
  · obtain ⟨m, hm⟩ : ∃ m, m = bs.length - 4 := ⟨_, rfl⟩
    obtain ⟨n, hn⟩ : ∃ n, n = bs.length := ⟨_, rfl⟩
    have hnm : (n : Int) - 4 = (m : Int) := by omega
    have hm0 : ¬ (m : Int) < 0 := by omega
    obtain ⟨b, o, rfl⟩ := hr.addr (by omega)
    obtain ⟨xs, hxs⟩ : ∃ xs, xs = bs.take m := ⟨_, rfl⟩
    have hxl : xs.length = m := by rw [hxs, List.length_take]; omega
    have hrx : ∀ W, Below w.heap.size w W → Rd W 0 hi 1 (some ⟨b, o, none⟩) xs.length (u8s xs) := fun W f => by
      have := (hr.fr (Fr.of_below f (fun _ => False)) hhi (fun _ _ _ h => h)).sub (p := 0) (xs := xs) (fun j x hj => by
        rw [hxs, List.getElem?_take] at hj
        split at hj
        · rw [Nat.zero_add]; exact hj
        · cases hj)
      rw [Nat.add_zero] at this
      exact this
    have hx256 : ∀ x ∈ xs, x < 256 := fun x hx => h256 x (by rw [hxs] at hx; exact List.mem_of_mem_take hx)
    have k132 := wseal_any w hi c (some ⟨b, o, none⟩) xs (hrx w (Below.refl _ _)) hhi (by omega) hx256
    rw [hxl] at k132
    have H := Lib.hid (And.intro hr (And.intro hhi (And.intro hxs (And.intro hxl (And.intro hm hn)))))
    have HR := Lib.hid (And.intro hrx hx256)
    have HK := Lib.hid k132
    have hmc : (m : Int) ≤ c := by omega
    have hl' : m + 4 ≤ 140737488351232 := by omega
    rw [← hn] at hc ⊢
    clear hr hhi h256 hxs hxl hrx hx256 k132 hm hn hl
    go_enter Tryd.func135, Tryd.ntmps135
    go_upto_region 4 with (fail)
    by_cases hs : sealN xs = bs
    · have HS := Lib.hid hs
      clear hs
      go_upto_region 6 with (first
        | (go_at_call 132
           refine HK.out.mono ?_
           rintro e w1 ⟨v1, rfl, o1, b1⟩
           obtain ⟨A1, c1, rfl, r1⟩ := o1.rd
           have k163 := wequal_any w1 w1.heap.size hi c1 c A1 (some ⟨b, o, none⟩) (sealN xs) bs (r1.wider (Nat.zero_le _) (Nat.le_refl _)) (H.out.1.fr (Fr.of_below b1 (fun _ => False)) H.out.2.1 (fun _ _ _ h => h)) (by rw [sealN_length, H.out.2.2.2.1]; omega)
           rw [decide_eq_true HS.out, ← H.out.2.2.2.2.2] at k163
           have HK2 := Lib.hid k163
           have HB1 := Lib.hid b1
           clear o1 b1 r1 k163)
        | (go_at_call 163
           refine HK2.out.mono ?_
           rintro e w2 ⟨rfl, b2⟩
           have HB2 := Lib.hid (HB1.out.trans (b2.mono HB1.out.size))
           clear b2)
        | fail)
      have k147 := clone8 w2 ⟨b, o, none⟩ c xs (by rw [H.out.2.2.2.1]; omega) ((HR.out.1 w2 HB2.out).wider (Nat.le_refl _) (Nat.le_trans H.out.2.1 HB2.out.size))
      rw [H.out.2.2.2.1] at k147
      have HK3 := Lib.hid k147
      clear k147
      go_wp2_with (first | (go_at_call 147; refine HK3.out.mono ?_; rintro e w3 ⟨A3, c3, rfl, o3, b3⟩; have H3 := Lib.hid (And.intro o3 b3); clear o3 b3) | fail)
      go_ret2
      have ho3 := H3.out.1.1
      refine ⟨HB2.out.trans (H3.out.2.mono HB2.out.size), .inr (.inr ⟨xs, A3, c3, HS.out.symm, by rw [H.out.2.2.2.1]; rfl, ?_⟩)⟩
      exact ownsRow_base ho3 HB2.out.size
    · have hne : ¬ sealN (bs.take (bs.length - 4)) = bs := by
        rw [← H.out.2.2.2.2.1, ← H.out.2.2.1]
        exact hs
      have HS := Lib.hid (And.intro hs hne)
      clear hs hne
      go_upto_region 5 with (first
        | (go_at_call 132
           refine HK.out.mono ?_
           rintro e w1 ⟨v1, rfl, o1, b1⟩
           obtain ⟨A1, c1, rfl, r1⟩ := o1.rd
           have k163 := wequal_any w1 w1.heap.size hi c1 c A1 (some ⟨b, o, none⟩) (sealN xs) bs (r1.wider (Nat.zero_le _) (Nat.le_refl _)) (H.out.1.fr (Fr.of_below b1 (fun _ => False)) H.out.2.1 (fun _ _ _ h => h)) (by rw [sealN_length, H.out.2.2.2.1]; omega)
           rw [decide_eq_false HS.out.1, ← H.out.2.2.2.2.2] at k163
           have HK2 := Lib.hid k163
           have HB1 := Lib.hid b1
           clear o1 b1 r1 k163)
        | (go_at_call 163
           refine HK2.out.mono ?_
           rintro e w2 ⟨rfl, b2⟩
           have b12 := HB1.out.trans (b2.mono HB1.out.size)
           have c8 := (b12.cell h08).trans h8
           have HB2 := Lib.hid b12
           clear b2 b12)
        | fail)
      go_region_held3 (fun w' => w'.cell? ⟨8, 0, none⟩ = some (errv a8)) (go_keep) (fail)
      go_wp2_with (fail)
      go_ret2
      exact ⟨HB2.out.drew, .inr (.inl ⟨by have := H.out.2.2.2.2.1; omega, HS.out.2, rfl⟩)⟩
end Go.Proofs.YtnlncfjibbdimaaDoor
namespace Go.Proofs.YtnlncfjibbdimaaDoor
open Go.RowKit
set_option linter.unusedSimpArgs false
set_option linter.unusedVariables false
/-- A command's bytes in a ledger. -/
def pieceN (c : Cmd) : List Nat := enc (putN c).length ++ putN c
/-- A ledger's bytes ahead of their sum. -/
def ledN (l : List Cmd) : List Nat := enc l.length ++ l.flatMap pieceN
theorem pieceN_len {c : Cmd} (h : chkB c = true) : (pieceN c).length ≤ 2010 := by
  have h1 := putN_len c (Lens.of (chk_rng h)) (chk_rng h).parts.1
  have h2 := enc_len6 (n := (putN c).length) (by omega)
  unfold pieceN
  rw [List.length_append]
  omega
theorem flat_pieceN_len : ∀ (l : List Cmd), (∀ c ∈ l, chkB c = true) → (l.flatMap pieceN).length ≤ 2010 * l.length
  | [], _ => by simp
  | c :: l, h => by
    have h1 := pieceN_len (h c (by simp))
    have h2 := flat_pieceN_len l (fun d hd => h d (by simp [hd]))
    rw [List.flatMap_cons, List.length_append, List.length_cons]
    omega
theorem pieceN_byte (c : Cmd) : ∀ x ∈ pieceN c, x < 256 := by
  intro x hx
  rcases List.mem_append.1 hx with h | h
  · exact enc_byte _ x h
  · exact putN_byte c x h
theorem ledN_byte (l : List Cmd) : ∀ x ∈ ledN l, x < 256 := by
  intro x hx
  rcases List.mem_append.1 hx with h | h
  · exact enc_byte _ x h
  · obtain ⟨c, _, hc⟩ := List.mem_flatMap.1 h
    exact pieceN_byte c x hc
theorem ledN_len {l : List Cmd} (h : ∀ c ∈ l, chkB c = true) (hl : l.length ≤ 4096) : (ledN l).length ≤ 8232970 := by
  have h1 := flat_pieceN_len l h
  have h2 := enc_len6 (n := l.length) (by omega)
  unfold ledN
  rw [List.length_append]
  omega
theorem ledN_pos (l : List Cmd) : 0 < (ledN l).length := by
  have := enc_pos l.length
  unfold ledN
  rw [List.length_append]
  omega
theorem intsAt_oneW {w : World} {lo hi : Nat} {pv : Value} {c : Cmd} (h : IntsAt w lo hi pv c.parts) : (c.cells pv).toArray.all (·.oneCell') = true := by
  obtain ⟨A0, c0, hpv, _⟩ := h
  rw [hpv]
  exact cells_oneCell _ _ _ _
/-- What Write answers. -/
def WritePost (l : List Cmd) (a1 a12 : Addr) (w : World) (e : Ending) (w' : World) : Prop :=
  Below w.heap.size w w' ∧
  ((4096 < l.length ∧ e = .returned (.tuple #[.slice none 0 0, errv a12])) ∨
   (l.length ≤ 4096 ∧ (∃ c ∈ l, chkB c = false) ∧ e = .returned (.tuple #[.slice none 0 0, errv a1])) ∨
   (l.length ≤ 4096 ∧ (∀ c ∈ l, chkB c = true) ∧ ∃ v, e = .returned (.tuple #[v, .nilIface]) ∧ OwnB w' w.heap.size v (sealN (ledN l))))
set_option maxRecDepth 100000 in
set_option maxHeartbeats 6400000 in
theorem wwrite_any (w : World) (lo hi : Nat) (v : Value) (l : List Cmd) (h : LedAt w lo hi v l) (hhi : hi ≤ w.heap.size) (hz : ∀ c ∈ l, c.Sized) (a1 a12 : Addr) (h1 : w.cell? ⟨1, 0, none⟩ = some (errv a1)) (h12 : w.cell? ⟨12, 0, none⟩ = some (errv a12)) :
    Calls Tryd.prog 70 #[v] w (WritePost l a1 a12 w) := by
  have h01 := World.block_lt_of_cell? w _ h1
  obtain ⟨A, cap, rfl, hcap, hcm, hb⟩ := h.form
  obtain ⟨n, hn⟩ : ∃ n, n = l.length := ⟨_, rfl⟩
  have HL := Lib.hid (And.intro h (And.intro hhi (And.intro hz (And.intro hn (And.intro h1 h01)))))
  rw [← hn] at hcap hb ⊢
  simp only [maxLen] at hcm
  have hn63 : n ≤ 9223372036854775807 := by omega
  by_cases hbig : (n : Int) > 4096
  · clear h hhi hz hn h1 h01
    go_enter Tryd.func70, Tryd.ntmps70
    go_upto_region 2 with (fail)
    go_region_held3 (fun w' => w'.cell? ⟨12, 0, none⟩ = some (errv a12)) (go_keep) (fail)
    go_wp2_with (fail)
    go_ret2
    exact ⟨(Below.refl _ _).drew, .inl ⟨by have := HL.out.2.2.2.1; omega, rfl⟩⟩
  · have hn16 : n ≤ 4096 := by omega
    clear h hhi hz hn h1 h01 h12
    go_enter Tryd.func70, Tryd.ntmps70
    go_upto_region 4 with (first | (go_at_call 98; refine (newWriter_w w).mono ?_; rintro e w1 ⟨g, rfl, hgl, W1, b1⟩; have H1 := Lib.hid (And.intro hgl (And.intro W1 b1)); clear hgl W1 b1) | fail)
    have k99 := num_any8 w1 g g n [] H1.out.2.1 (by have := enc_len6 (n := n) (by omega); simp; omega) (by omega)
    have HK99 := Lib.hid k99
    clear k99
    go_wp2_with (first | (go_at_call 99; refine HK99.out.mono ?_; rintro e w2 ⟨rfl, W2, b2, _⟩; have H2 := Lib.hid (And.intro W2 (H1.out.2.2.trans (b2.mono H1.out.1))); clear W2 b2) | fail)
    clear HK99
    go_loopw [22] (fun i wr => ∃ k : Nat, k ≤ n ∧ i = .int .i64 k ∧ WAt wr g g (enc n ++ (l.take k).flatMap pieceN) ∧ Below w.heap.size w wr ∧ ∀ c ∈ l.take k, chkB c = true) (fun i _ => n - (intOf i).toNat)
    case atStart => exact ⟨0, Nat.zero_le _, rfl, by simpa using H2.out.1, H2.out.2, by simp⟩
    case round =>
      obtain ⟨k, hk, rfl, hW, hB, hall⟩ := hrel
      have HW := Lib.hid (And.intro hW (And.intro hB hall))
      clear hW hB hall
      by_cases hlt : (k : Int) < n
      · have hk' : k < l.length := by rw [← HL.out.2.2.2.1]; omega
        have hlk := List.getElem?_eq_getElem hk'
        have hL := HL.out.1
        rw [← HL.out.2.2.2.1] at hL
        obtain ⟨b, o, pv, rfl, hlo', hhi', hr0, hparts⟩ := hL.range hlk
        obtain ⟨c, hc⟩ : ∃ c, c = l[k] := ⟨_, rfl⟩
        rw [← hc] at hr0 hparts hlk
        have hrange : wr.rangeAt b (o + k * 18) (c.cells pv) := rangeAt_fr hr0 (Fr.of_below HW.out.2.1 (fun _ => False)) (by have := HL.out.2.1; omega) (fun h => h)
        have hone := intsAt_oneW hparts
        have hcl : c ∈ l := List.mem_of_getElem? hlk
        have hp1 := hparts.fr (Fr.of_below (HW.out.2.1.alloc HW.out.2.1.size (.cells (c.cells pv).toArray 81)) (fun _ => False)) HL.out.2.1 (fun _ _ _ h => h)
        have hx := Blk.new wr 81 (c.cells pv).toArray
        have hbA := HW.out.2.1.alloc HW.out.2.1.size (.cells (c.cells pv).toArray 81)
        have k44 := put_any8 c (HL.out.2.2.1 c hcl) (wr.alloc (.cells (c.cells pv).toArray 81)) lo hi pv hp1 (Nat.le_trans HL.out.2.1 hbA.size) a1 ((hbA.cell HL.out.2.2.2.2.2).trans HL.out.2.2.2.2.1)
        have hrx := hx.range
        have HC := Lib.hid (And.intro hlk (And.intro hbA hone))
        have HK := Lib.hid k44
        clear hL hlk hr0 hparts hone hcl hp1 hx hbA k44 hc
        go_upto_region 8 with (first
          | ((with_reducible refine law_load 81 (.tmp 24) b (o + k * 18) (c.cells pv) ?_ hrange Tryd.underlying81 ?_ ?_ ?_); rfl; rfl; exact cmd_info)
          | ((with_reducible refine law_store_fresh 81 (.tmp 6) (.tmp 25) wr 81 _ (c.cells pv).toArray ?_ ?_ rfl ?_ ?_ HC.out.2.2 ?_); rfl; rfl; exact cmd_info; rfl)
          | fail)
        cases hck : chkB c with
        | false =>
          have HCK := Lib.hid hck
          clear hck
          go_wp2_with (first
            | ((with_reducible refine law_load 81 (.tmp 6) wr.heap.size 0 (c.cells pv) ?_ hrx Tryd.underlying81 ?_ ?_ ?_); rfl; rfl; exact cmd_info)
            | (go_at_call 44; refine HK.out.mono ?_; rintro e w3 ⟨hb3, _⟩; obtain ⟨rfl, b3⟩ := hb3 HCK.out; have H3 := Lib.hid (HC.out.2.1.trans (b3.mono HC.out.2.1.size)); clear hb3 b3)
            | fail)
          go_ret2
          exact ⟨H3.out, .inr (.inl ⟨by have := HL.out.2.2.2.1; omega, ⟨c, List.mem_of_getElem? HC.out.1, HCK.out⟩, rfl⟩)⟩
        | true =>
          have HCK := Lib.hid hck
          have hWA : WAt (wr.alloc (.cells (c.cells pv).toArray 81)) g g (enc n ++ (l.take k).flatMap pieceN) := (WK.of (Pk := fun _ => False) HW.out.1 (fun _ h => h.elim) ((Below.refl wr.heap.size wr).alloc (Nat.le_refl _) _)).wat
          have hplen : (enc n ++ (l.take k).flatMap pieceN).length + (enc (putN c).length).length + (putN c).length ≤ 1099511627776 := by
            have q1 := flat_pieceN_len _ HW.out.2.2
            have q2 := pieceN_len hck
            have q3 := enc_len6 (n := n) (by omega)
            rw [List.length_take] at q1
            unfold pieceN at q2
            rw [List.length_append] at q2 ⊢
            have : min k l.length ≤ 4096 := by omega
            omega
          have hnext : (l.take (k + 1)).flatMap pieceN = (l.take k).flatMap pieceN ++ pieceN c := by
            rw [List.take_add_one, HC.out.1, List.flatMap_append]
            simp
          have HA := Lib.hid (And.intro hWA (And.intro hplen hnext))
          clear hck hWA hplen hnext
          go_upto_region 12 with (first
            | ((with_reducible refine law_load 81 (.tmp 6) wr.heap.size 0 (c.cells pv) ?_ hrx Tryd.underlying81 ?_ ?_ ?_); rfl; rfl; exact cmd_info)
            | (go_at_call 44
               refine HK.out.mono ?_
               rintro e w3 ⟨_, hd⟩
               obtain ⟨A6, c6, rfl, o6, b6⟩ := hd HCK.out
               have k131 := wbytes_any _ w3 g g c6 _ (putN c) A6 HA.out.1 b6 o6.1 HA.out.2.1
               have HK131 := Lib.hid k131
               have H3 := Lib.hid (HC.out.2.1.trans (b6.mono HC.out.2.1.size))
               clear hd o6 b6 k131)
            | (go_at_call 131
               refine HK131.out.mono ?_
               rintro e w4 ⟨rfl, W4, b4⟩
               have H4 := Lib.hid (And.intro W4 (H3.out.trans (b4.mono H1.out.1)))
               clear W4 b4)
            | fail)
          go_wp2_with (fail)
          go_roundw
          case rel => exact ⟨k + 1, by omega, by go_num, by rw [HA.out.2.2, pieceN, ← List.append_assoc, ← List.append_assoc]; exact H4.out.1, H4.out.2, fun d hd => by
            rw [List.take_add_one, HC.out.1] at hd
            rcases List.mem_append.1 hd with h | h
            · exact HW.out.2.2 d h
            · simp at h
              rw [h]
              exact HCK.out⟩
          case measure => simp [intOf]; omega
      · have hkn : k = l.length := by have := HL.out.2.2.2.1; omega
        have hall := HW.out.2.2
        have hW := HW.out.1
        rw [hkn, List.take_length] at hall hW
        rw [HL.out.2.2.2.1] at hW
        have HLW := Lib.hid (And.intro hall (show WAt wr g g (ledN l) from hW))
        have k102 := done_some wr g g (ledN l) HLW.out.2 (ledN_pos l)
        have HK102 := Lib.hid k102
        clear hall hW hkn k102
        go_upto_region 16 with (first | (go_at_call 102; refine HK102.out.mono ?_; rintro e w5 ⟨A5, c5, rfl, o5, b5⟩; have H5 := Lib.hid (And.intro o5 (HW.out.2.1.trans (b5.mono HW.out.2.1.size))); clear o5 b5) | fail)
        have k132 := wseal_any w5 w5.heap.size c5 A5 (ledN l) ((Rd.of_own H5.out.1.1 (fun g hg => (H5.out.1.1.lt g hg).2)).wider (Nat.zero_le _) (Nat.le_refl _)) (Nat.le_refl _) (by have := ledN_len HLW.out.1 (by have := HL.out.2.2.2.1; omega); omega) (ledN_byte l)
        have HK132 := Lib.hid k132
        clear k132
        go_wp2_with (first | (go_at_call 132; refine HK132.out.mono ?_; rintro e w6 ⟨v6, rfl, o6, b6⟩; have H6 := Lib.hid (And.intro o6 (H5.out.2.trans (b6.mono H5.out.2.size))); clear o6 b6) | fail)
        go_ret2
        exact ⟨H6.out.2, .inr (.inr ⟨by have := HL.out.2.2.2.1; omega, HLW.out.1, v6, rfl, H6.out.1.1, H6.out.1.2.1, ownsRow_base H6.out.1.2.2 H5.out.2.size⟩)⟩
end Go.Proofs.YtnlncfjibbdimaaDoor
