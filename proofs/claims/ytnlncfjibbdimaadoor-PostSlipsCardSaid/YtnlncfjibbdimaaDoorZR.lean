/-
  A number read from bytes; a row of bytes of the call's own; the walks of wire.Reader's number, Num, Bytes, Text and of the command reader's num, text, id.
  What was read as a number was written by enc; the command reader where what is asked for is not there, by a panic; a command off a row, in plain Lean; num, text and id both ways.
  The walks of the document's Num, Bytes and nums: a number's bytes, a text's, a list's.
  The document's Read, Reader, take and id: the walks; what it reads against what the program reads, in plain Lean.
-/
import Derived.Test.YtnlncfjibbdimaaDoorZS
import Derived.Test.YtnlncfjibbdimaaDoorZW
import Derived.Deep.RegionHeld3
import Derived.Laws.IdiomStrings
import Derived.Test.YtnlncfjibbdimaaDoorZB
import Derived.WalkSmall
import Derived.Deep.RegionHeld2
namespace Go.Proofs.YtnlncfjibbdimaaDoor
open Go.RowKit
set_option linter.unusedSimpArgs false
set_option linter.unusedVariables false
end Go.Proofs.YtnlncfjibbdimaaDoor
namespace Go.Proofs.YtnlncfjibbdimaaDoor
open Go.RowKit
set_option linter.unusedSimpArgs false
set_option linter.unusedVariables false
/-- A row of bytes of the call's own, from block lo on. -/
def OwnB (w : World) (lo : Nat) (v : Value) (bs : List Nat) : Prop := (∃ A c, v = .slice A bs.length c) ∧ bs.length ≤ 140737488355328 ∧ w.ownsRow lo 5 1 v bs.length (u8s bs)
/-- k is a block of bytes. -/
def BS (w : World) (k : Nat) : Prop := ∃ cs, Blk w k 5 cs
/-- What lies below lo is as it was, and of the older blocks only blocks of bytes have turned. -/
def BFr (lo : Nat) (w w' : World) : Prop := Below lo w w' ∧ Fr w.heap.size (BS w) w w'
theorem BFr.refl (lo : Nat) (w : World) : BFr lo w w := ⟨Below.refl _ _, Fr.refl _ _ _⟩
theorem BFr.trans {lo : Nat} {a b c : World} (h : BFr lo a b) (k : BFr lo b c) : BFr lo a c := by
  refine ⟨h.1.trans k.1, h.2.step k.2 h.2.size (fun i hi ⟨cs, hcs⟩ => ?_)⟩
  by_cases hs : BS a i
  · exact hs
  · exact ⟨cs, by have := h.2.block i hi hs; unfold Blk at hcs ⊢; rw [← this]; exact hcs⟩
theorem BFr.of_below {lo : Nat} {w w' : World} (h : Below w.heap.size w w') (hlo : lo ≤ w.heap.size) : BFr lo w w' := ⟨h.mono hlo, Fr.of_below h _⟩
theorem BFr.size {lo : Nat} {w w' : World} (h : BFr lo w w') : w.heap.size ≤ w'.heap.size := h.2.size
theorem Blk.bfr {lo g : Nat} {w w' : World} {t : TypeId} {cs : Array Value} (h : Blk w g t cs) (f : BFr lo w w') (ht : t ≠ 5) : Blk w' g t cs :=
  h.fr f.2 h.lt (fun ⟨cs', h'⟩ => by
    unfold Blk at h h'
    rw [h] at h'
    injection h' with h'
    injection h' with _ h'
    exact ht h')
theorem OwnB.below {w w' : World} {lo B : Nat} {v : Value} {bs : List Nat} (h : OwnB w lo v bs) (f : Below B w w') (hB : w.heap.size ≤ B) : OwnB w' lo v bs :=
  ⟨h.1, h.2.1, (OwnRow.fr (lo := lo) (hi := w.heap.size) ⟨h.2.2, fun g hg => (h.2.2.lt g hg).2⟩ (Fr.of_below f (fun _ => False)) hB (fun _ _ _ h => h)).1⟩
theorem OwnB.nil_ (w : World) (lo : Nat) : OwnB w lo (.slice none 0 0) [] := ⟨⟨none, 0, rfl⟩, by simp, rfl, .inl ⟨rfl, rfl⟩⟩
theorem OwnB.rd {w : World} {lo : Nat} {v : Value} {bs : List Nat} (h : OwnB w lo v bs) : ∃ A c, v = .slice A bs.length c ∧ Rd w lo w.heap.size 1 A bs.length (u8s bs) := by
  obtain ⟨⟨A, c, rfl⟩, _, ho⟩ := h
  exact ⟨A, c, rfl, Rd.of_own ho (fun g hg => (ho.lt g hg).2)⟩
section
variable {ops : Array Oper} {rest : List Oper} {o : Oper} {a : Act} {W : World} {Q : Exit → Act → World → Prop}
/-- append(b, c...) for two rows of bytes, b of the call's own. -/
theorem law_append8 (s x : Operand) (lo lo1 hi1 : Nat) (v : Value) (bs cs : List Nat) (A : Option Addr) (c : Nat) (hgd : o.guard = none) (ho : o.op = .call { callee := .builtin .append, args := #[s, x], argTypes := #[84, 84] })
    (hs : a.eval s = v) (hO : OwnB W lo v bs) (hx : a.eval x = .slice A cs.length c) (hr : Rd W lo1 hi1 1 A cs.length (u8s cs)) (hl : bs.length + cs.length ≤ 140737488355328) (hlo : lo ≤ W.heap.size)
    (h : ∀ A' c' W', OwnB W' lo (.slice A' (bs.length + cs.length) c') (bs ++ cs) → BFr lo W W' → wpList Tryd.prog ops Q rest (a.put o.dst (.slice A' (bs.length + cs.length) c')) W') : wpList Tryd.prog ops Q (o :: rest) a W := by
  obtain ⟨i0, hi0, hz0, hz1, hz2⟩ := info_parts8 u8_info
  refine wpList_append_any _ hgd s x 84 ho lo 5 i0 _ 1 1 Tryd.underlying84 hi0 hz0 hz1 hz2 rfl (by decide) v bs.length (u8s bs) hs hO.2.2 lo1 hi1 A cs.length c (u8s cs) hx hr (u8s_oneCell cs) (by simp only [maxLen]; omega) (by omega) hlo ?_
  intro v1 w1 hown1 hg1 hat1
  have hO1 : OwnRow w1 lo w1.heap.size 5 1 v1 (bs.length + cs.length) (u8s bs ++ u8s cs) := ⟨hown1, fun g hg => (hown1.lt g hg).2⟩
  obtain ⟨A1, c1, hv1, _⟩ := hO1.form
  subst hv1
  have hlen : (bs ++ cs).length = bs.length + cs.length := List.length_append
  have e8 : u8s (bs ++ cs) = u8s bs ++ u8s cs := by simp [u8s]
  have hb : Below lo W w1 := (Below.refl lo W).grown hg1 hlo (fun k hk => (hO.2.2.lt k hk).1)
  have hf : Fr W.heap.size (BS W) W w1 := (Fr.refl W.heap.size (BS W) W).grown hg1 (Nat.le_refl _) (fun k hk => .inl (own_blk hO.2.2 hk))
  exact h A1 c1 w1 ⟨⟨A1, c1, by rw [hlen]⟩, by rw [hlen]; exact hl, by rw [hlen, e8]; exact hown1⟩ ⟨hb, hf⟩
end
end Go.Proofs.YtnlncfjibbdimaaDoor
namespace Go.Proofs.YtnlncfjibbdimaaDoor
open Go.RowKit
set_option linter.unusedSimpArgs false
set_option linter.unusedVariables false
end Go.Proofs.YtnlncfjibbdimaaDoor
namespace Go.Proofs.YtnlncfjibbdimaaDoor
open Go.RowKit
set_option linter.unusedSimpArgs false
set_option linter.unusedVariables false
end Go.Proofs.YtnlncfjibbdimaaDoor
namespace Go.Proofs.YtnlncfjibbdimaaDoor
open Go.RowKit
set_option linter.unusedSimpArgs false
set_option linter.unusedVariables false
theorem conv_text {W : World} {lo hi : Nat} {A : Option Addr} {c : Nat} (s : ByteArray) (h : Rd W lo hi 1 A s.size (u8s (bytesN s))) (hA : A = none → c = 0) : (convert 84 9 (.slice A s.size c)).run Tryd.prog W = .ok (.string s) W := by
  obtain ⟨⟨l⟩⟩ := s
  have hsz : ByteArray.size ⟨⟨l⟩⟩ = l.length := rfl
  rw [hsz] at h ⊢
  cases A with
  | none =>
    have hl : l = [] := by
      rcases Nat.eq_zero_or_pos l.length with h0 | h0
      · exact List.eq_nil_of_length_eq_zero h0
      · obtain ⟨ad, he, _⟩ := h.2 h0
        cases he
    subst hl
    simp only [List.length_nil]
    rw [hA rfl, Go.run_convert_bytes_string W 84 9 5 none 0 0 Tryd.underlying84 Tryd.underlying5 Tryd.underlying9]
    rfl
  | some ad =>
    exact run_convert_bytes_back W 84 9 5 ad c l Tryd.underlying84 Tryd.underlying5 Tryd.underlying9 (fun j hj => by
      obtain ⟨ad', he, _, _, hc⟩ := h.2 (by omega)
      injection he with he
      subst he
      exact hc j _ (by simp [u8s, bytesN, List.getElem?_eq_getElem hj]))
end Go.Proofs.YtnlncfjibbdimaaDoor
namespace Go.Proofs.YtnlncfjibbdimaaDoor
open Go.RowKit
set_option linter.unusedSimpArgs false
set_option linter.unusedVariables false
end Go.Proofs.YtnlncfjibbdimaaDoor

namespace Go.Proofs.YtnlncfjibbdimaaDoor
open Go.RowKit
set_option linter.unusedSimpArgs false
set_option linter.unusedVariables false
end Go.Proofs.YtnlncfjibbdimaaDoor
namespace Go.Proofs.YtnlncfjibbdimaaDoor
open Go.RowKit
set_option linter.unusedSimpArgs false
set_option linter.unusedVariables false
end Go.Proofs.YtnlncfjibbdimaaDoor
namespace Go.Proofs.YtnlncfjibbdimaaDoor
open Go.RowKit
set_option linter.unusedSimpArgs false
set_option linter.unusedVariables false
end Go.Proofs.YtnlncfjibbdimaaDoor
namespace Go.Proofs.YtnlncfjibbdimaaDoor
open Go.RowKit
set_option linter.unusedSimpArgs false
set_option linter.unusedVariables false
/-- The text of bytes. -/
def textOf (l : List Nat) : ByteArray := ⟨(l.map UInt8.ofNat).toArray⟩
theorem bytesN_textOf {l : List Nat} (hl : ∀ x ∈ l, x < 256) : bytesN (textOf l) = l := by
  simp only [bytesN, textOf, List.map_map]
  have h : ∀ x ∈ l, ((fun (b : UInt8) => b.toNat) ∘ UInt8.ofNat) x = x := fun x hx => by
    have := hl x hx
    simp [UInt8.toNat_ofNat]
    omega
  exact (List.map_congr_left h).trans (List.map_id _)
end Go.Proofs.YtnlncfjibbdimaaDoor
namespace Go.Proofs.YtnlncfjibbdimaaDoor
open Go.RowKit
set_option linter.unusedSimpArgs false
set_option linter.unusedVariables false
end Go.Proofs.YtnlncfjibbdimaaDoor
namespace Go.Proofs.YtnlncfjibbdimaaDoor
open Go.RowKit
set_option linter.unusedSimpArgs false
set_option linter.unusedVariables false
end Go.Proofs.YtnlncfjibbdimaaDoor

namespace Go.Proofs.YtnlncfjibbdimaaDoor
open Go.RowKit
set_option linter.unusedSimpArgs false
set_option linter.unusedVariables false
/-- A call that hands back new bytes. -/
def NewB (w : World) (bs : List Nat) (e : Ending) (w' : World) : Prop := ∃ v, e = .returned v ∧ OwnB w' w.heap.size v bs ∧ Below w.heap.size w w'
theorem rd_one (w : World) (q : Nat) : Rd (w.alloc (.cells #[.int .u8 q] 5)) 0 (w.heap.size + 1) 1 (some ⟨w.heap.size, 0, none⟩) [q].length (u8s [q]) :=
  ⟨rfl, fun _ => ⟨_, rfl, Nat.zero_le _, by simp, fun j u hu => by rw [Addr.add_mid, Nat.zero_add, (Blk.new w 5 _).cell j]; simpa [u8s] using hu⟩⟩
theorem OwnB.made (w : World) : OwnB (w.alloc (.cells #[] 5)) w.heap.size (.slice (some ⟨w.heap.size, 0, none⟩) 0 0) [] :=
  ⟨⟨_, 0, rfl⟩, by simp, rfl, .inr ⟨w.heap.size, 0, #[], rfl, Nat.le_refl _, heap_alloc_new w _, Nat.le_refl _, Nat.zero_le _, rfl, rfl⟩⟩
set_option maxRecDepth 100000 in
set_option maxHeartbeats 3200000 in
theorem rnum_any (w : World) (n : Nat) (hl : (enc n).length ≤ 140737488355328) (hn : n ≤ 9223372036854775807) : Calls Tryd.prog 133 #[.int .i64 n] w (NewB w (enc n)) := by
  go_enter Tryd.func133, Tryd.ntmps133
  go_wp2
  go_loopw [0, 3] (fun v u wr => ∃ (m : Nat) (bs' : List Nat) (A : Option Addr) (c : Nat), v = .int .i64 m ∧ m ≤ 9223372036854775807 ∧ bs' ++ enc m = enc n ∧ u = .slice A bs'.length c ∧ OwnB wr w.heap.size u bs' ∧ Below w.heap.size w wr) (fun v _ _ => (intOf v).toNat)
  case atStart => exact ⟨n, [], some ⟨w.heap.size, 0, none⟩, 0, rfl, hn, rfl, rfl, OwnB.made w, (Below.refl _ _).alloc (Nat.le_refl _) _⟩
  case round =>
    obtain ⟨m, bs', A, c, rfl, hm, hbs, rfl, hO, hb⟩ := hrel
    have hlen : bs'.length + (enc m).length ≤ 140737488355328 := by
      have := congrArg List.length hbs
      simp only [List.length_append] at this
      omega
    have hep := enc_pos m
    obtain ⟨q, hq⟩ : ∃ q, q = m % 128 := ⟨_, rfl⟩
    obtain ⟨d, hd⟩ : ∃ d, d = m / 128 := ⟨_, rfl⟩
    have hb1 : (m : Int).tmod 128 = (q : Int) := by rw [Int.tmod_eq_emod_of_nonneg (by omega)]; omega
    have hb4 : (m : Int).tdiv 128 = (d : Int) := by rw [Int.tdiv_eq_ediv_of_nonneg (by omega)]; omega
    have hb2 : (q : Int) % 256 = q := by omega
    have hO1 := Lib.hid hO
    have HB := Lib.hid hb
    by_cases h0 : d = 0
    · have hE : enc m = [q] := by rw [enc_small (by omega), hq, Nat.mod_eq_of_lt (by omega)]
      have HE := Lib.hid hE
      have HBS := Lib.hid hbs
      have HL := Lib.hid hlen
      subst h0
      have HW := Lib.hid (And.intro (hO.below ((Below.refl wr.heap.size wr).alloc (Nat.le_refl _) (.cells #[.int .u8 q] 5)) (Nat.le_refl _)) (rd_one wr q))
      have hsz := hb.size
      have HS := Lib.hid hsz
      clear hbs hlen hep hq hd hO hb hE hsz
      go_wp2_with (at_builtin
                   refine law_append8 (.tmp 13) (.tmp 15) w.heap.size 0 (wr.heap.size + 1) (.slice A bs'.length c) bs' [q] (some ⟨wr.heap.size, 0, none⟩) 1 rfl rfl rfl HW.out.1 rfl HW.out.2 (by have := HL.out; rw [HE.out] at this; exact this) (by have := HS.out; simp; omega) ?_
                   intro A1 c1 W1 o1 f1
                   have HO1 := Lib.hid o1
                   have HF1 := Lib.hid f1
                   clear o1 f1)
      go_ret
      have e1 := HBS.out
      rw [HE.out] at e1
      have e2 := HO1.out
      rw [e1] at e2
      exact ⟨_, rfl, e2, (HB.out.alloc HS.out _).trans HF1.out.1⟩
    · obtain ⟨e, he⟩ : ∃ e, e = q + 128 := ⟨_, rfl⟩
      have hb3 : ((q : Int) + 128) % 256 = (e : Int) := by omega
      have hE : enc m = e :: enc d := by rw [enc_big (by omega), he, hq, hd]
      have hdm : d < m := by omega
      have HE := Lib.hid hE
      have HBS := Lib.hid hbs
      have HL := Lib.hid hlen
      have HW := Lib.hid (And.intro (hO.below ((Below.refl wr.heap.size wr).alloc (Nat.le_refl _) (.cells #[.int .u8 e] 5)) (Nat.le_refl _)) (rd_one wr e))
      have hsz := hb.size
      have HS := Lib.hid hsz
      clear hbs hlen hep hq hd hO hb hE he hsz
      go_wp2_with (at_builtin
                   refine law_append8 (.tmp 17) (.tmp 20) w.heap.size 0 (wr.heap.size + 1) (.slice A bs'.length c) bs' [e] (some ⟨wr.heap.size, 0, none⟩) 1 rfl rfl rfl HW.out.1 rfl HW.out.2 (by have := HL.out; rw [HE.out, List.length_cons] at this; simp only [List.length_cons, List.length_nil]; omega) (by have := HS.out; simp; omega) ?_
                   intro A1 c1 W1 o1 f1
                   have HO1 := Lib.hid o1
                   have HF1 := Lib.hid f1
                   clear o1 f1)
      go_roundw
      case rel => exact ⟨d, bs' ++ [e], A1, c1, by go_num, by omega, by rw [← HBS.out, HE.out]; simp, by simp, HO1.out, (HB.out.alloc HS.out _).trans HF1.out.1⟩
      case measure => simp [intOf]; omega
set_option maxRecDepth 100000 in
set_option maxHeartbeats 1600000 in
theorem rbytes_any (w : World) (lo hi : Nat) (A : Option Addr) (c : Nat) (bs : List Nat) (hr : Rd w lo hi 1 A bs.length (u8s bs)) (hhi : hi ≤ w.heap.size) (hl : (enc bs.length).length + bs.length ≤ 140737488355328) :
    Calls Tryd.prog 111 #[.slice A bs.length c] w (NewB w (enc bs.length ++ bs)) := by
  have k133 := fun W => rnum_any W bs.length (by omega) (by omega)
  have hst : ∀ W, Below w.heap.size w W → Rd W lo hi 1 A bs.length (u8s bs) := fun W h => hr.fr (Fr.of_below h (fun _ => False)) hhi (fun _ _ _ h => h)
  have HST := Lib.hid hst
  have HL := Lib.hid hl
  clear hst hr hl
  go_enter Tryd.func111, Tryd.ntmps111
  go_wp2_with (first
               | (at_builtin
                  refine law_append8 (.tmp 5) (.tmp 6) w.heap.size lo hi _ (enc bs.length) bs A c rfl rfl rfl HO.out.1 rfl (HST.out _ HO.out.2) HL.out (HO.out.2.size) ?_
                  intro A1 c1 W1 o1 f1
                  have HO1 := Lib.hid o1
                  have HF1 := Lib.hid f1
                  clear o1 f1)
               | (go_at_call 133
                  refine (k133 _).mono ?_
                  rintro e w1 ⟨v1, rfl, o1, b1⟩
                  obtain ⟨⟨A0, c0, hv0⟩, ho0⟩ := id o1
                  have HO := Lib.hid (And.intro o1 b1)
                  subst hv0
                  clear o1 b1 ho0))
  go_ret
  exact ⟨_, rfl, HO1.out, HO.out.2.trans HF1.out.1⟩
theorem rnum_int (w : World) (x : Int) (hx : 0 ≤ x ∧ x ≤ 9223372036854775807) (hl : (encI x).length ≤ 140737488355328) : Calls Tryd.prog 133 #[.int .i64 x] w (NewB w (encI x)) := by
  have := rnum_any w x.toNat hl (by omega)
  rw [Int.toNat_of_nonneg hx.1] at this
  exact this
theorem flat_take {l : List Int} {k : Nat} {x : Int} (h : l[k]? = some x) : (l.take (k + 1)).flatMap encI = (l.take k).flatMap encI ++ encI x := by
  rw [List.take_add_one, h, List.flatMap_append]
  simp
theorem flat_take_len (l : List Int) (k : Nat) : ((l.take k).flatMap encI).length ≤ (l.flatMap encI).length := by
  have : (l.flatMap encI) = (l.take k).flatMap encI ++ (l.drop k).flatMap encI := by rw [← List.flatMap_append, List.take_append_drop]
  rw [this, List.length_append]
  omega
/-- A call that puts bytes onto a row of the caller's own. -/
def PutB (lo : Nat) (w : World) (bs : List Nat) (e : Ending) (w' : World) : Prop := ∃ v, e = .returned v ∧ OwnB w' lo v bs ∧ BFr lo w w'
set_option maxRecDepth 100000 in
set_option maxHeartbeats 1600000 in
theorem rnums_any (w : World) (lo lo1 hi1 : Nat) (v lv : Value) (bs : List Nat) (l : List Int) (hO : OwnB w lo v bs) (hlo : lo ≤ w.heap.size) (hst : ∀ W, BFr lo w W → IntsAt W lo1 hi1 lv l)
    (hg : ∀ x ∈ l, 0 ≤ x ∧ x ≤ 9223372036854775807) (hl : bs.length + (l.flatMap encI).length ≤ 140737488355328) : Calls Tryd.prog 110 #[v, lv] w (PutB lo w (bs ++ l.flatMap encI)) := by
  obtain ⟨LA, LC, rfl, hc1, hc2, _, _⟩ := hst w (BFr.refl lo w)
  have hn63 : l.length ≤ 9223372036854775807 := by simp only [maxLen] at hc2; omega
  obtain ⟨n, hn⟩ : ∃ n, n = l.length := ⟨_, rfl⟩
  rw [← hn] at hst hn63 ⊢
  have hrd : ∀ W, BFr lo w W → ∀ k x, l[k]? = some x → ∃ b o, LA = some ⟨b, o, none⟩ ∧ W.cell? ⟨b, o + k, none⟩ = some (.int .i64 x) := fun W hW k x hx => by
    obtain ⟨_, _, he, _, _, _, hr⟩ := hst W hW
    injection he with e1 e2 e3
    subst e1
    have hk := (List.getElem?_eq_some_iff.1 hx).1
    obtain ⟨ad, rfl, _, _, hcell⟩ := hr.2 (by omega)
    obtain ⟨b, o, sp⟩ := ad
    have hck := hcell k (.int .i64 x) (by rw [ints_getElem?, hx]; rfl)
    have h0 : 0 < l.length := by omega
    have hc0 := hcell 0 _ (by rw [ints_getElem?, List.getElem?_eq_getElem h0]; rfl)
    have hsp : sp = none := by simpa [Addr.add] using World.cell?_spot hc0
    subst hsp
    rw [Addr.add_mid] at hck
    exact ⟨b, o, rfl, hck⟩
  have HRD := Lib.hid hrd
  have HG := Lib.hid hg
  have HL := Lib.hid hl
  have HN := Lib.hid hn
  have HLO := Lib.hid hlo
  obtain ⟨⟨A0, c0, rfl⟩, _⟩ := id hO
  have HO0 := Lib.hid hO
  clear hst hrd hg hl hn hO hlo hc1 hc2
  go_enter Tryd.func110, Tryd.ntmps110
  go_wp2_with (fail)
  go_loopw [0, 9] (fun v i wr => ∃ (k : Nat) (A : Option Addr) (c : Nat) (cs : List Nat), k ≤ n ∧ i = .int .i64 k ∧ cs = bs ++ (l.take k).flatMap encI ∧ v = .slice A cs.length c ∧ OwnB wr lo v cs ∧ BFr lo w wr) (fun _ i _ => n - (intOf i).toNat)
  case atStart => exact ⟨0, A0, c0, bs, Nat.zero_le _, rfl, by simp, rfl, HO0.out, BFr.refl _ _⟩
  case round =>
    obtain ⟨k, A, c, cs, hk, rfl, hcs, rfl, hO, hf⟩ := hrel
    have HCS := Lib.hid hcs
    have HO := Lib.hid (And.intro hO hf)
    clear hcs hO hf
    by_cases hlt : k < n
    · obtain ⟨x, hx⟩ : ∃ x, l[k]? = some x := ⟨_, List.getElem?_eq_getElem (by rw [← HN.out]; exact hlt)⟩
      have hxr := HG.out x (List.mem_of_getElem? hx)
      obtain ⟨b, o, rfl, hck⟩ := HRD.out wr HO.out.2 k x hx
      have hstep := flat_take (l := l) hx
      have hlen : (enc x.toNat).length ≤ 140737488355328 ∧ cs.length + (encI x).length ≤ 140737488355328 := by
        have h1 := flat_take_len l (k + 1)
        have h2 := HL.out
        rw [hstep, List.length_append] at h1
        rw [HCS.out, List.length_append]
        have h3 : (encI x).length = (enc x.toNat).length := rfl
        omega
      have k133 := fun W => rnum_int W x hxr hlen.1
      have HST := Lib.hid hstep
      have HLEN := Lib.hid hlen
      clear hxr hx hstep hlen
      go_wp2_with (first
                   | (at_builtin
                      refine law_append8 (.tmp 13) (.tmp 15) lo wr.heap.size w1.heap.size (.slice A cs.length c) cs (encI x) A1 c1 rfl rfl rfl (HO.out.1.below HN1.out.2 (Nat.le_refl _)) rfl HR1.out HLEN.out.2 (by have := HLO.out; have := HO.out.2.size; have := HN1.out.2.size; omega) ?_
                      intro A2 c2 W2 o2 f2
                      have HO2 := Lib.hid o2
                      have HF2 := Lib.hid f2
                      clear o2 f2)
                   | (go_at_call 133
                      refine (k133 _).mono ?_
                      rintro e w1 ⟨v1, rfl, o1, b1⟩
                      obtain ⟨A1, c1, hv1, r1⟩ := o1.rd
                      subst hv1
                      have HN1 := Lib.hid (And.intro o1 b1)
                      have HR1 := Lib.hid r1
                      clear o1 b1 r1))
      go_roundw
      case rel => exact ⟨k + 1, A2, c2, cs ++ encI x, by omega, by go_num, by rw [HST.out, HCS.out, List.append_assoc], by simp, HO2.out, (HO.out.2.trans (BFr.of_below HN1.out.2 (by have := HLO.out; have := HO.out.2.size; omega))).trans HF2.out⟩
      case measure => simp [intOf]; omega
    · have hkn : k = n := by omega
      have hall : l.take k = l := by rw [hkn, HN.out, List.take_length]
      have HA := Lib.hid hall
      clear hkn hall
      go_wp2_with (fail)
      go_ret
      have h := HCS.out
      rw [HA.out] at h
      rw [← h]
      exact ⟨_, rfl, HO.out.1, HO.out.2⟩
end Go.Proofs.YtnlncfjibbdimaaDoor

namespace Go.Proofs.YtnlncfjibbdimaaDoor
open Go.RowKit
set_option linter.unusedSimpArgs false
set_option linter.unusedVariables false
theorem take_snoc {l : List Nat} {k x : Nat} (h : l[k]? = some x) : l.take (k + 1) = l.take k ++ [x] := by rw [List.take_add_one, h]; rfl
theorem textOf_eq {a b : List Nat} (ha : ∀ x ∈ a, x < 256) (hb : ∀ x ∈ b, x < 256) : ((textOf a).toList == (textOf b).toList) = decide (a = b) := by
  by_cases h : a = b
  · subst h
    simp
  · rw [decide_eq_false h, beq_eq_false_iff_ne]
    intro he
    rw [ByteArray.toList_eq, ByteArray.toList_eq] at he
    apply h
    rw [← bytesN_textOf ha, ← bytesN_textOf hb]
    unfold bytesN
    rw [he]
end Go.Proofs.YtnlncfjibbdimaaDoor
namespace Go.Proofs.YtnlncfjibbdimaaDoor
open Go.RowKit
set_option linter.unusedSimpArgs false
set_option linter.unusedVariables false
theorem conv_bytes {W : World} {lo hi : Nat} {A : Option Addr} {c : Nat} {xs : List Nat} (h256 : ∀ x ∈ xs, x < 256) (h : Rd W lo hi 1 A xs.length (u8s xs)) (hA : A = none → c = 0) :
    (convert 84 9 (.slice A xs.length c)).run Tryd.prog W = .ok (.string (textOf xs)) W := by
  have hb := bytesN_textOf h256
  have hs : (textOf xs).size = xs.length := by rw [← bytesN_length, hb]
  have := conv_text (W := W) (lo := lo) (hi := hi) (A := A) (c := c) (textOf xs) (by rw [hs, hb]; exact h) hA
  rw [hs] at this
  exact this
theorem Rd.addr {w : World} {lo hi : Nat} {A : Option Addr} {bs : List Nat} (h : Rd w lo hi 1 A bs.length (u8s bs)) (h0 : 0 < bs.length) : ∃ b o, A = some ⟨b, o, none⟩ := by
  obtain ⟨ad, rfl, _, _, hcell⟩ := h.2 h0
  obtain ⟨b, o, sp⟩ := ad
  have hc0 := hcell 0 (.int .u8 (bs[0]'h0)) (by simp [u8s, List.getElem?_eq_getElem h0])
  have hsp : sp = none := by simpa [Addr.add] using World.cell?_spot hc0
  exact ⟨b, o, by rw [hsp]⟩
theorem Rd.at8 {w : World} {lo hi b o : Nat} {bs : List Nat} (h : Rd w lo hi 1 (some ⟨b, o, none⟩) bs.length (u8s bs)) {k x : Nat} (hx : bs[k]? = some x) : w.cell? ⟨b, o + k, none⟩ = some (.int .u8 x) := by
  have hk := (List.getElem?_eq_some_iff.1 hx).1
  obtain ⟨ad, he, _, _, hcell⟩ := h.2 (by omega)
  injection he with he
  subst he
  have hck := hcell k (.int .u8 x) (by simp [u8s, hx])
  rw [Addr.add_mid] at hck
  exact hck
theorem Rd.sub {w : World} {lo hi b o p : Nat} {bs xs : List Nat} (h : Rd w lo hi 1 (some ⟨b, o, none⟩) bs.length (u8s bs)) (hx : ∀ j x, xs[j]? = some x → bs[p + j]? = some x) : Rd w lo hi 1 (some ⟨b, o + p, none⟩) xs.length (u8s xs) := by
  refine ⟨by simp [u8s], fun h0 => ?_⟩
  have hp : 0 < bs.length := by
    have h1 := hx 0 _ (List.getElem?_eq_getElem h0)
    have h2 := (List.getElem?_eq_some_iff.1 h1).1
    omega
  obtain ⟨ad, he, h1, h2, hc⟩ := h.2 hp
  injection he with he
  subst he
  refine ⟨_, rfl, h1, h2, fun j u hu => ?_⟩
  simp only [u8s, List.getElem?_map] at hu
  cases hj : xs[j]? with
  | none => rw [hj] at hu; cases hu
  | some x =>
    rw [hj] at hu
    have e : Value.int .u8 (x : Int) = u := by simpa using hu
    subst e
    have := hc (p + j) (.int .u8 x) (by simp [u8s, hx j x hj])
    rw [Addr.add_mid] at this ⊢
    rw [Nat.add_assoc]
    exact this
end Go.Proofs.YtnlncfjibbdimaaDoor
namespace Go.Proofs.YtnlncfjibbdimaaDoor
open Go.RowKit
set_option linter.unusedSimpArgs false
set_option linter.unusedVariables false
end Go.Proofs.YtnlncfjibbdimaaDoor
namespace Go.Proofs.YtnlncfjibbdimaaDoor
open Go.RowKit
set_option linter.unusedSimpArgs false
set_option linter.unusedVariables false
theorem ownsRow_base {w : World} {base base' e size n : Nat} {v : Value} {xs : List Value} (h : w.ownsRow base e size v n xs) (hb : base' ≤ base) : w.ownsRow base' e size v n xs :=
  ⟨h.1, h.2.imp id (fun ⟨g, cap, cur, e1, e2, r⟩ => ⟨g, cap, cur, e1, Nat.le_trans hb e2, r⟩)⟩
end Go.Proofs.YtnlncfjibbdimaaDoor
namespace Go.Proofs.YtnlncfjibbdimaaDoor
open Go.RowKit
set_option linter.unusedSimpArgs false
set_option linter.unusedVariables false
end Go.Proofs.YtnlncfjibbdimaaDoor
namespace Go.Proofs.YtnlncfjibbdimaaDoor
open Go.RowKit
set_option linter.unusedSimpArgs false
set_option linter.unusedVariables false
end Go.Proofs.YtnlncfjibbdimaaDoor
