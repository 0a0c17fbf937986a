/-
  bollardnum's Bytes and Kept; CommandGets: the walk, and off the row's reading of its argument.
  A slice literal of two commands; a command's argument opened; CommandLengths: the walk, and off the row's reading of its arguments.
  The walk of the document's Put, for every command in form.
  CommandLedgers: what both Writes answer, the walk of the document's Write, the law's walk.
-/
import Derived.Test.YtnlncfjibbdimaaDoorZR
import Derived.Laws.MakeOwn
import Derived.Deep.RegionHeld3
import Derived.Test.YtnlncfjibbdimaaDoorZO
import Derived.Test.YtnlncfjibbdimaaDoorZS
import Derived.Test.YtnlncfjibbdimaaDoorZW
import Derived.Defers
import Derived.Recover
import Derived.Test.YtnlncfjibbdimaaDoorZF
import Derived.Test.YtnlncfjibbdimaaDoorZX
import Derived.Test.YtnlncfjibbdimaaDoorZB
import Derived.Test.YtnlncfjibbdimaaDoorZSameC
import Derived.Laws.IdiomStrings
import Derived.Great.BuildSlice
import Derived.Deep.MidRow
import Derived.Test.YtnlncfjibbdimaaDoorZCheck
import Derived.Lib.ConvBytes
import Derived.Deep.DeepCutAuto
namespace Go.Proofs.YtnlncfjibbdimaaDoor
open Go.RowKit
set_option linter.unusedSimpArgs false
set_option linter.unusedVariables false
end Go.Proofs.YtnlncfjibbdimaaDoor
namespace Go.Proofs.YtnlncfjibbdimaaDoor
open Go.ChangeShapes Go.WideShapes Go.ChangeAt Go.RowKit Go.Deep
set_option linter.unusedSimpArgs false
set_option linter.unusedVariables false
section
variable {H : Type} {enc : TypeId × Value → H} {w : World} {base : Nat} {spare : Nat → Bool} {held : Bool} {fuel : Nat} {cs : List Value} {x : DataW H × List MemPlace}
theorem bounds_u8 {n : Int} (h : (Lit.int .u8 n).wf = true) : 0 ≤ n ∧ n ≤ 255 := by
  simp [Lit.wf, IntKind.min, IntKind.max, IntKind.signed, IntKind.bits] at h
  omega
theorem trod_u8 (h : DataW.trod enc Tryd.prog w base spare held fuel 5 cs = some x) : ∃ n : Nat, cs = [.int .u8 n] ∧ n < 256 := by
  obtain ⟨n, h1, _, h2⟩ := DataW.trod_int Tryd.underlying5 h
  have := bounds_u8 h2
  exact ⟨n.toNat, by rw [Int.toNat_of_nonneg this.1]; exact h1, by omega⟩
theorem bytesOf5 : Tryd.prog.bytesOf 5 = 1 := by kernel_rfl
theorem cellsOf5 : Tryd.prog.cellsOf 5 = 1 := by kernel_rfl
/-- A slice of bytes reads as a row. -/
theorem open_bytes (h : DataW.trod enc Tryd.prog w base spare held fuel 84 cs = some x) (hx : Light 84 x.1) :
    ∃ (A : Option Addr) (c : Nat) (bs : List Nat), cs = [.slice A bs.length c] ∧ Rd w 0 w.heap.size 1 A bs.length (u8s bs) ∧ bs.length ≤ 140737488351232 ∧ (bs.length ≤ c ∧ c ≤ 9223372036854775807) ∧ (A = none → c = 0) ∧ ∀ b ∈ bs, b < 256 := by
  have hnil : ∀ A n c, cs = [.slice A n c] → A = none → c = 0 := fun A n c hcs hA => by
    rcases DataW.trod_slice Tryd.underlying84 h with ⟨e, _⟩ | ⟨a, len, cap, elems, rest, n', _, e, _⟩
    · rw [e] at hcs
      injection hcs with hcs
      injection hcs with _ _ hcs
      exact hcs.symm
    · rw [e] at hcs
      injection hcs with hcs
      injection hcs with hcs
      rw [hA] at hcs
      cases hcs
  obtain ⟨A, n, c, rfl, h1, h2, h3, h4⟩ := open_rows 1 1 Tryd.underlying84 cellsOf5 bytesOf5 h hx
  obtain ⟨f, hf⟩ := choose_lt (α := Nat) (n := n) (p := fun i z => z < 256 ∧ ∃ ad, A = some ad ∧ w.cell? (ad.add i) = some (.int .u8 z)) (fun i hi => by
    obtain ⟨ad, cs', m, y, e1, e2, e3, e4, _⟩ := h4 i hi
    obtain ⟨z, rfl, hz⟩ := trod_u8 e4
    exact ⟨z, hz, ad, e1, by have := e2 0 (by omega); simpa using this⟩)
  have hlen : ((List.range n).map f).length = n := by simp
  simp only [maxLen] at h2
  refine ⟨A, c, (List.range n).map f, by rw [hlen], ?_, by rw [hlen]; unfold reachBytes at h3; omega, ⟨by rw [hlen]; exact h1, by omega⟩, hnil A n c rfl, ?_⟩
  · rw [hlen]
    refine ⟨by simp [u8s], fun hn => ?_⟩
    obtain ⟨_, ad, rfl, hc⟩ := hf 0 hn
    refine ⟨ad, rfl, Nat.zero_le _, ?_, ?_⟩
    · have := World.block_lt_of_cell? w _ hc
      rwa [block_of_add] at this
    · intro j u hu
      have hj : j < n := by
        have := (List.getElem?_eq_some_iff.1 hu).1
        simpa [u8s] using this
      obtain ⟨_, ad', e, hc'⟩ := hf j hj
      injection e with e
      subst e
      have : u = .int .u8 (f j) := by
        simp [u8s, hj] at hu
        exact hu.symm
      rw [this]
      exact hc'
  · intro b hb
    obtain ⟨i, hi, rfl⟩ := List.mem_map.1 hb
    exact (hf i (List.mem_range.1 hi)).1
end
end Go.Proofs.YtnlncfjibbdimaaDoor
namespace Go.Proofs.YtnlncfjibbdimaaDoor
open Go.RowKit
set_option linter.unusedSimpArgs false
set_option linter.unusedVariables false
end Go.Proofs.YtnlncfjibbdimaaDoor
namespace Go.Proofs.YtnlncfjibbdimaaDoor
open Go.ChangeShapes Go.WideShapes Go.ChangeAt Go.RowKit Go.Deep
set_option linter.unusedSimpArgs false
set_option linter.unusedVariables false
end Go.Proofs.YtnlncfjibbdimaaDoor

namespace Go.Proofs.YtnlncfjibbdimaaDoor
open Go.RowKit
set_option linter.unusedSimpArgs false
set_option linter.unusedVariables false
end Go.Proofs.YtnlncfjibbdimaaDoor
namespace Go.Proofs.YtnlncfjibbdimaaDoor
open Go.RowKit
set_option linter.unusedSimpArgs false
set_option linter.unusedVariables false
theorem WritePost.good {l : List Cmd} {a1 a12 : Addr} {w w' : World} {e : Ending} (h : WritePost l a1 a12 w e w') (hl : l.length ≤ 4096) (hall : ∀ c ∈ l, chkB c = true) :
    ∃ A c, e = .returned (.tuple #[.slice A (sealN (ledN l)).length c, .nilIface]) ∧ OwnB w' w.heap.size (.slice A (sealN (ledN l)).length c) (sealN (ledN l)) ∧ Below w.heap.size w w' := by
  obtain ⟨hb, ⟨h1, _⟩ | ⟨_, ⟨c, hc, hf⟩, _⟩ | ⟨_, _, v, rfl, ho⟩⟩ := h
  · omega
  · rw [hall c hc] at hf
    cases hf
  · obtain ⟨A, c, rfl⟩ := ho.1
    exact ⟨A, c, rfl, ho, hb⟩
end Go.Proofs.YtnlncfjibbdimaaDoor
namespace Go.Proofs.YtnlncfjibbdimaaDoor
open Go.ChangeShapes Go.WideShapes Go.ChangeAt Go.RowKit Go.Deep
set_option linter.unusedSimpArgs false
set_option linter.unusedVariables false
section
variable {H : Type} {enc : TypeId × Value → H} {w : World} {base : Nat} {spare : Nat → Bool} {held : Bool} {fuel : Nat} {cs : List Value} {x : DataW H × List MemPlace}
theorem trod_piece_sz (h : DataW.trod enc Tryd.prog w base spare held fuel 79 cs = some x) : ∃ a b c z s, cs = [.int .i64 a, .int .i64 b, .int .i64 c, .int .i64 z, .string s] ∧ s.size ≤ maxLen := by
  have hlen := trod_len Tryd.underlying79 h
  obtain ⟨_, _, h0⟩ := trod_field Tryd.underlying79 h 0 _ rfl
  obtain ⟨_, _, h1⟩ := trod_field Tryd.underlying79 h 1 _ rfl
  obtain ⟨_, _, h2⟩ := trod_field Tryd.underlying79 h 2 _ rfl
  rw [cellsOf79] at hlen
  obtain ⟨a, b, c, e0, _⟩ := trod_id h0
  obtain ⟨z, e1, _⟩ := trod_i64 h1
  obtain ⟨s, e2, zs⟩ := trod_str h2
  clear h h0 h1 h2
  obtain ⟨c0, c1, c2, c3, c4, rfl⟩ := list5 hlen
  simp [cellsOf3, cellsOf74, cells9] at e0 e1 e2
  exact ⟨a, b, c, z, s, by rw [e0.1, e0.2.1, e0.2.2, e1, e2], zs⟩
theorem open_cmd_sz (h : DataW.trod enc Tryd.prog w base spare held fuel 81 cs = some x) (hx : Light 81 x.1) : ∃ c, CmdAt w 0 w.heap.size cs c ∧ c.Sized := by
  have hlen := trod_len Tryd.underlying81 h
  obtain ⟨_, _, h0⟩ := trod_field Tryd.underlying81 h 0 _ rfl
  obtain ⟨_, _, h1⟩ := trod_field Tryd.underlying81 h 1 _ rfl
  obtain ⟨_, _, h2⟩ := trod_field Tryd.underlying81 h 2 _ rfl
  obtain ⟨_, _, h3⟩ := trod_field Tryd.underlying81 h 3 _ rfl
  obtain ⟨_, _, h4⟩ := trod_field Tryd.underlying81 h 4 _ rfl
  obtain ⟨_, _, h5⟩ := trod_field Tryd.underlying81 h 5 _ rfl
  obtain ⟨_, _, h6⟩ := trod_field Tryd.underlying81 h 6 _ rfl
  obtain ⟨_, _, h7, l7⟩ := light_field Tryd.underlying81 h hx 7 _ rfl
  obtain ⟨_, _, h8⟩ := trod_field Tryd.underlying81 h 8 _ rfl
  obtain ⟨_, _, h9⟩ := trod_field Tryd.underlying81 h 9 _ rfl
  rw [cellsOf81] at hlen
  obtain ⟨kind, e0, _⟩ := trod_i64 h0
  obtain ⟨i1, i2, i3, e1, _⟩ := trod_id h1
  obtain ⟨bu, e2, zb⟩ := trod_str h2
  obtain ⟨ke, e3, zk⟩ := trod_str h3
  obtain ⟨u1, u2, u3, e4, _⟩ := trod_id h4
  obtain ⟨p1, p2, p3, pz, pe, e5, ze⟩ := trod_piece_sz h5
  obtain ⟨part, e6, _⟩ := trod_i64 h6
  obtain ⟨pv, parts, e7, hi, _⟩ := open_intsAt h7 l7
  obtain ⟨time, e8, _⟩ := trod_i64 h8
  obtain ⟨days, e9, _⟩ := trod_i64 h9
  clear h h0 h1 h2 h3 h4 h5 h6 h7 h8 h9 l7 hx
  obtain ⟨c0, c1, c2, c3, c4, c5, c6, c7, c8, c9, c10, c11, c12, c13, c14, c15, c16, c17, rfl⟩ := list18 hlen
  simp [cellsOf3, cellsOf74, cells9, cellsOf79, cellsOf40] at e0 e1 e2 e3 e4 e5 e6 e7 e8 e9
  refine ⟨⟨kind, i1, i2, i3, bu, ke, u1, u2, u3, p1, p2, p3, pz, pe, part, parts, time, days⟩, ⟨pv, ?_, hi⟩, zb, zk, ze⟩
  simp only [Cmd.cells, e0, e1.1, e1.2.1, e1.2.2, e2, e3, e4.1, e4.2.1, e4.2.2, e5.1, e5.2.1, e5.2.2.1, e5.2.2.2.1, e5.2.2.2.2, e6, e7, e8, e9]
end
end Go.Proofs.YtnlncfjibbdimaaDoor
namespace Go.Proofs.YtnlncfjibbdimaaDoor
open Go.ChangeShapes Go.WideShapes Go.ChangeAt Go.RowKit Go.Deep
set_option linter.unusedSimpArgs false
set_option linter.unusedVariables false
end Go.Proofs.YtnlncfjibbdimaaDoor

namespace Go.Proofs.YtnlncfjibbdimaaDoor
open Go.RowKit
set_option linter.unusedSimpArgs false
set_option linter.unusedVariables false
theorem ints_lit {W : World} {g : Nat} (l : List Int) (h : Blk W g 3 (ints l).toArray) (hl : l.length ≤ 1000) : IntsAt W g (g + 1) (.slice (some ⟨g, 0, none⟩) l.length l.length) l := by
  refine ⟨some ⟨g, 0, none⟩, l.length, rfl, Nat.le_refl _, by simp only [maxLen]; omega, by omega, by rw [ints_length]; omega, fun _ => ⟨_, rfl, Nat.le_refl _, Nat.lt_succ_self _, fun j u hu => ?_⟩⟩
  rw [Addr.add_mid, Nat.zero_add, h.cell j]
  simpa using hu
/-- A text's bytes, laid anew by the conversion. -/
theorem bytesWorld_below (w : World) (s : ByteArray) : Below w.heap.size w (Lib.bytesWorld w 5 s) :=
  ⟨rfl, rfl, rfl, by rw [Lib.bytesWorld_size]; omega, fun k hk => Lib.bytesWorld_at_old w 5 s k hk⟩
theorem bytesWorld_rd (w : World) (s : ByteArray) : Rd (Lib.bytesWorld w 5 s) w.heap.size (w.heap.size + 1) 1 (some ⟨w.heap.size, 0, none⟩) s.size (u8s (bytesN s)) := by
  refine ⟨by simp [u8s, bytesN_length], fun _ => ⟨_, rfl, Nat.le_refl _, Nat.lt_succ_self _, fun j u hu => ?_⟩⟩
  rw [Addr.add_mid, Nat.zero_add]
  have hj : j < s.size := by
    have := (List.getElem?_eq_some_iff.1 hu).1
    simpa [u8s, bytesN_length] using this
  rw [Lib.bytesWorld_cell w 5 s j hj]
  have hj' : j < s.data.toList.length := by simpa using hj
  simp only [u8s, bytesN, List.getElem?_map, List.getElem?_eq_getElem hj', Option.map_some] at hu
  rw [← hu, List.getD_eq_getElem?_getD, List.getElem?_eq_getElem hj']
  rfl
theorem rbytes_text (w : World) (s : ByteArray) (cap : Nat) (hs : s.size ≤ 1000) : Calls Tryd.prog 111 #[.slice (some ⟨w.heap.size, 0, none⟩) s.size cap] (Lib.bytesWorld w 5 s) fun e w' => ∃ v, e = .returned v ∧ OwnB w' (w.heap.size + 1) v (encS s) ∧ Below w.heap.size w w' := by
  have h6 : (enc s.size).length ≤ 6 := enc_len6 (by omega)
  have h := rbytes_any (Lib.bytesWorld w 5 s) w.heap.size (w.heap.size + 1) (some ⟨w.heap.size, 0, none⟩) cap (bytesN s) (by rw [bytesN_length]; exact bytesWorld_rd w s) (by rw [Lib.bytesWorld_size]; omega) (by rw [bytesN_length]; omega)
  rw [bytesN_length] at h
  refine h.mono ?_
  rintro e w' ⟨v, rfl, o, b⟩
  rw [Lib.bytesWorld_size] at o b
  exact ⟨v, rfl, o, (bytesWorld_below w s).trans (b.mono (by omega))⟩
theorem d81 : (81 : TypeId) ≠ 5 := by decide
theorem d3 : (3 : TypeId) ≠ 5 := by decide
set_option maxRecDepth 100000 in
set_option maxHeartbeats 3200000 in
theorem rput_any (c : Cmd) (hc : Lens c) (hpp : ∀ x ∈ c.parts, inG x) (w : World) (lo hi : Nat) (pv : Value) (hp : IntsAt w lo hi pv c.parts) (hhi : hi ≤ w.heap.size) :
    Calls Tryd.prog 48 #[.agg (c.cells pv).toArray] w (NewB w (putN c)) := by
  obtain ⟨kind, idn, idb, ids, bucket, key, upn, upb, ups, pbn, pbb, pbs, psize, etag, part, parts, time, days⟩ := c
  obtain ⟨_, hr⟩ := hc
  rename_i hl
  simp only at hl hr hp hpp
  obtain ⟨A, cp, rfl, hc1, hc2, hc3, hrd⟩ := id hp
  simp only [Cmd.cells]
  have hst : ∀ W, BFr w.heap.size w W → IntsAt W lo hi (.slice A parts.length cp) parts := fun W h => hp.fr (Fr.of_below h.1 (fun _ => False)) hhi (fun _ _ _ h => h)
  have hG : ∀ (l : List Int), (∀ x ∈ l, inG x) → ∀ x ∈ l, 0 ≤ x ∧ x ≤ 9223372036854775807 := fun l h x hx => by have := h x hx; unfold inG at this; omega
  have hcv := fun (W : World) (s : ByteArray) => Lib.run_convert_string_bytes (P := Tryd.prog) W 9 84 5 s Tryd.underlying9 Tryd.underlying84 Tryd.underlying5
  have HG := Lib.hid hG
  have HST := Lib.hid hst
  have HPP := Lib.hid hpp
  have HC := Lib.hid (And.intro hl hr)
  have hn63 : parts.length ≤ 16 := hr.2.2.2.2.2.2.2.2.2.2.2.2.2.2
  clear hl hr hp hc1 hc2 hc3 hrd hG hst hpp
  go_enter Tryd.func48, Tryd.ntmps48
  go_upto_region 1 with (fail)
  refine wp_letter (fun W => BFr w.heap.size w W ∧ Blk W w.heap.size 81 #[.int .i64 kind, .int .i64 idn, .int .i64 idb, .int .i64 ids, .string bucket, .string key, .int .i64 upn, .int .i64 upb, .int .i64 ups, .int .i64 pbn, .int .i64 pbb, .int .i64 pbs, .int .i64 psize, .string etag, .int .i64 part, .slice A parts.length cp, .int .i64 time, .int .i64 days]) ⟨BFr.of_below ((Below.refl w.heap.size w).alloc (Nat.le_refl _) _) (Nat.le_refl _), Blk.new w 81 _⟩ ?_
  rintro W ⟨hb, hX⟩
  obtain ⟨x, hx⟩ : ∃ x, x = w.heap.size := ⟨_, rfl⟩
  have hxW : x ≤ W.heap.size := by rw [hx]; exact hb.size
  rw [← hx] at hX hb HST ⊢
  have hO := OwnB.nil_ W x
  have cX := hX.cell
  obtain ⟨b0, hb0⟩ : ∃ b : List Nat, b = [] := ⟨_, rfl⟩
  rw [← hb0] at hO
  have hlen0 : b0.length ≤ 0 := by rw [hb0]; simp
  have HLW := Lib.hid hxW
  have HL0 := Lib.hid hlen0
  have HB0 := Lib.hid hb0
  have HO := Lib.hid (And.intro hO (And.intro hb hX))
  have HX0 := Lib.hid hx
  clear hx hlen0 hb0 hO hb hX hxW
  have hL1 : ∀ x ∈ ([kind, idn, idb, ids] : List Int), inG x := by
    have := HC.out.2
    simp only [List.mem_cons, List.not_mem_nil, or_false]
    rintro x hx
    rcases hx with rfl | rfl | rfl | rfl <;> first | exact this.1 | exact this.2.1 | exact this.2.2.1 | exact this.2.2.2.1 | exact this.2.2.2.2.1 | exact this.2.2.2.2.2.1 | exact this.2.2.2.2.2.2.1 | exact this.2.2.2.2.2.2.2.1 | exact this.2.2.2.2.2.2.2.2.1 | exact this.2.2.2.2.2.2.2.2.2.1 | exact this.2.2.2.2.2.2.2.2.2.2.1 | exact this.2.2.2.2.2.2.2.2.2.2.2.1 | (unfold inG; omega)
  have hf1 := flat_len _ hL1
  simp only [List.length_cons, List.length_nil] at hf1
  obtain ⟨b1, hb1⟩ : ∃ b, b = b0 ++ ([kind, idn, idb, ids] : List Int).flatMap encI := ⟨_, rfl⟩
  have hlen1 : b1.length ≤ 24 := by have := HL0.out; rw [hb1, List.length_append]; omega
  have hO1 := (HO.out.1).below ((Below.refl W.heap.size W).alloc (Nat.le_refl _) (.cells #[.int .i64 kind, .int .i64 idn, .int .i64 idb, .int .i64 ids] 3)) (Nat.le_refl _)
  have k110 := rnums_any (W.alloc (.cells #[.int .i64 kind, .int .i64 idn, .int .i64 idb, .int .i64 ids] 3)) x W.heap.size (W.heap.size + 1) (.slice none 0 0) (.slice (some ⟨W.heap.size, 0, none⟩) 4 4) b0 [kind, idn, idb, ids] hO1 (by have := HLW.out; simp; omega) (fun W' h => ints_lit [kind, idn, idb, ids] ((Blk.new W 3 #[.int .i64 kind, .int .i64 idn, .int .i64 idb, .int .i64 ids]).bfr h (by decide)) (by simp)) (HG.out _ hL1) (by have := HL0.out; omega)
  rw [← hb1] at k110
  have HK110 := Lib.hid k110
  have HL1 := Lib.hid hlen1
  have HB1 := Lib.hid hb1
  clear hL1 hf1 hlen1 hO1 hb1 k110
  go_upto_region 2 with (first | (go_at_call 110; refine HK110.out.mono ?_; rintro e w1 ⟨v1, rfl, o1, f1⟩; obtain ⟨⟨A1, c1, hv1⟩, _⟩ := id o1; subst hv1; have HN := Lib.hid (And.intro o1 f1); clear o1 f1) | fail)
  have hf1 := HO.out.2.1.trans ((BFr.of_below ((Below.refl W.heap.size W).alloc (Nat.le_refl _) (.cells #[.int .i64 kind, .int .i64 idn, .int .i64 idb, .int .i64 ids] 3)) HLW.out).trans HN.out.2)
  have hX1 := (HO.out.2.2.alloc (.cells #[.int .i64 kind, .int .i64 idn, .int .i64 idb, .int .i64 ids] 3)).bfr HN.out.2 (by decide)
  have hw1 : x ≤ w1.heap.size := by have := HLW.out; have := HN.out.2.size; simp at this; omega
  have HO := Lib.hid (And.intro HN.out.1 (And.intro hf1 hX1))
  have HLW := Lib.hid hw1
  clear cX
  have cX := hX1.cell
  clear hf1 hX1 hw1 HN HK110
  have hs2 : bucket.size ≤ 64 := by have := HC.out.1; omega
  have he2 : (encS bucket).length ≤ 70 := by
    unfold encS
    rw [List.length_append, bytesN_length]
    have : (enc bucket.size).length ≤ 6 := enc_len6 (by omega)
    omega
  obtain ⟨b2, hb2⟩ : ∃ b, b = b1 ++ encS bucket := ⟨_, rfl⟩
  have hlen2 : b2.length ≤ 94 := by have := HL1.out; rw [hb2, List.length_append]; omega
  have k111 := fun cap => rbytes_text w1 bucket cap (by omega)
  have HE := Lib.hid he2
  have HK111 := Lib.hid k111
  have HL2 := Lib.hid hlen2
  have HB2 := Lib.hid hb2
  clear hs2 he2 hlen2 hb2 k111
  go_upto_region 3 with (first
     | (at_builtin
        refine law_append8 (.tmp 17) (.tmp 21) x _ _ _ b1 (encS bucket) Aq cq rfl rfl rfl (HO.out.1.below HN.out.2 (Nat.le_refl _)) rfl HR.out (by have := HL1.out; have := HE.out; omega) (by have := HLW.out; have := HN.out.2.size; omega) ?_
        intro A2 c2 w2 o2 f2
        have HM := Lib.hid (And.intro o2 f2)
        clear o2 f2)
     | (go_at_call 111
        refine (HK111.out _).mono ?_
        rintro e wq ⟨vq, rfl, oq, bq⟩
        obtain ⟨Aq, cq, hvq, rq⟩ := oq.rd
        subst hvq
        have HN := Lib.hid (And.intro oq bq)
        have HR := Lib.hid rq
        clear oq bq rq) | fail)
  have hf2 := HO.out.2.1.trans ((BFr.of_below HN.out.2 HLW.out).trans HM.out.2)
  have hX2 := (HO.out.2.2.below HN.out.2 HO.out.2.2.lt).bfr HM.out.2 (by decide)
  have hw2 : x ≤ w2.heap.size := by have := HLW.out; have := HN.out.2.size; have := HM.out.2.size; omega
  have hO2 := HM.out.1
  rw [← HB2.out] at hO2
  have HO := Lib.hid (And.intro hO2 (And.intro hf2 hX2))
  have HLW := Lib.hid hw2
  clear cX
  have cX := hX2.cell
  clear hf2 hX2 hw2 hO2 HN HM HR HE HK111
  have hs3 : key.size ≤ 200 := by have := HC.out.1; omega
  have he3 : (encS key).length ≤ 206 := by
    unfold encS
    rw [List.length_append, bytesN_length]
    have : (enc key.size).length ≤ 6 := enc_len6 (by omega)
    omega
  obtain ⟨b3, hb3⟩ : ∃ b, b = b2 ++ encS key := ⟨_, rfl⟩
  have hlen3 : b3.length ≤ 300 := by have := HL2.out; rw [hb3, List.length_append]; omega
  have k111 := fun cap => rbytes_text w2 key cap (by omega)
  have HE := Lib.hid he3
  have HK111 := Lib.hid k111
  have HL3 := Lib.hid hlen3
  have HB3 := Lib.hid hb3
  clear hs3 he3 hlen3 hb3 k111
  go_upto_region 4 with (first
     | (at_builtin
        refine law_append8 (.tmp 23) (.tmp 27) x _ _ _ b2 (encS key) Aq cq rfl rfl rfl (HO.out.1.below HN.out.2 (Nat.le_refl _)) rfl HR.out (by have := HL2.out; have := HE.out; omega) (by have := HLW.out; have := HN.out.2.size; omega) ?_
        intro A3 c3 w3 o3 f3
        have HM := Lib.hid (And.intro o3 f3)
        clear o3 f3)
     | (go_at_call 111
        refine (HK111.out _).mono ?_
        rintro e wq ⟨vq, rfl, oq, bq⟩
        obtain ⟨Aq, cq, hvq, rq⟩ := oq.rd
        subst hvq
        have HN := Lib.hid (And.intro oq bq)
        have HR := Lib.hid rq
        clear oq bq rq) | fail)
  have hf3 := HO.out.2.1.trans ((BFr.of_below HN.out.2 HLW.out).trans HM.out.2)
  have hX3 := (HO.out.2.2.below HN.out.2 HO.out.2.2.lt).bfr HM.out.2 (by decide)
  have hw3 : x ≤ w3.heap.size := by have := HLW.out; have := HN.out.2.size; have := HM.out.2.size; omega
  have hO3 := HM.out.1
  rw [← HB3.out] at hO3
  have HO := Lib.hid (And.intro hO3 (And.intro hf3 hX3))
  have HLW := Lib.hid hw3
  clear cX
  have cX := hX3.cell
  clear hf3 hX3 hw3 hO3 HN HM HR HE HK111
  have hL4 : ∀ x ∈ ([upn, upb, ups, pbn, pbb, pbs, psize] : List Int), inG x := by
    have := HC.out.2
    simp only [List.mem_cons, List.not_mem_nil, or_false]
    rintro x hx
    rcases hx with rfl | rfl | rfl | rfl | rfl | rfl | rfl <;> first | exact this.1 | exact this.2.1 | exact this.2.2.1 | exact this.2.2.2.1 | exact this.2.2.2.2.1 | exact this.2.2.2.2.2.1 | exact this.2.2.2.2.2.2.1 | exact this.2.2.2.2.2.2.2.1 | exact this.2.2.2.2.2.2.2.2.1 | exact this.2.2.2.2.2.2.2.2.2.1 | exact this.2.2.2.2.2.2.2.2.2.2.1 | exact this.2.2.2.2.2.2.2.2.2.2.2.1 | (unfold inG; omega)
  have hf4 := flat_len _ hL4
  simp only [List.length_cons, List.length_nil] at hf4
  obtain ⟨b4, hb4⟩ : ∃ b, b = b3 ++ ([upn, upb, ups, pbn, pbb, pbs, psize] : List Int).flatMap encI := ⟨_, rfl⟩
  have hlen4 : b4.length ≤ 342 := by have := HL3.out; rw [hb4, List.length_append]; omega
  have hO4 := (HO.out.1).below ((Below.refl w3.heap.size w3).alloc (Nat.le_refl _) (.cells #[.int .i64 upn, .int .i64 upb, .int .i64 ups, .int .i64 pbn, .int .i64 pbb, .int .i64 pbs, .int .i64 psize] 3)) (Nat.le_refl _)
  have k110 := rnums_any (w3.alloc (.cells #[.int .i64 upn, .int .i64 upb, .int .i64 ups, .int .i64 pbn, .int .i64 pbb, .int .i64 pbs, .int .i64 psize] 3)) x w3.heap.size (w3.heap.size + 1) (.slice A3 (b2.length + (encS key).length) c3) (.slice (some ⟨w3.heap.size, 0, none⟩) 7 7) b3 [upn, upb, ups, pbn, pbb, pbs, psize] hO4 (by have := HLW.out; simp; omega) (fun W' h => ints_lit [upn, upb, ups, pbn, pbb, pbs, psize] ((Blk.new w3 3 #[.int .i64 upn, .int .i64 upb, .int .i64 ups, .int .i64 pbn, .int .i64 pbb, .int .i64 pbs, .int .i64 psize]).bfr h (by decide)) (by simp)) (HG.out _ hL4) (by have := HL3.out; omega)
  rw [← hb4] at k110
  have HK110 := Lib.hid k110
  have HL4 := Lib.hid hlen4
  have HB4 := Lib.hid hb4
  clear hL4 hf4 hlen4 hO4 hb4 k110
  go_upto_region 5 with (first | (go_at_call 110; refine HK110.out.mono ?_; rintro e w4 ⟨v4, rfl, o4, f4⟩; obtain ⟨⟨A4, c4, hv4⟩, _⟩ := id o4; subst hv4; have HN := Lib.hid (And.intro o4 f4); clear o4 f4) | fail)
  have hf4 := HO.out.2.1.trans ((BFr.of_below ((Below.refl w3.heap.size w3).alloc (Nat.le_refl _) (.cells #[.int .i64 upn, .int .i64 upb, .int .i64 ups, .int .i64 pbn, .int .i64 pbb, .int .i64 pbs, .int .i64 psize] 3)) HLW.out).trans HN.out.2)
  have hX4 := (HO.out.2.2.alloc (.cells #[.int .i64 upn, .int .i64 upb, .int .i64 ups, .int .i64 pbn, .int .i64 pbb, .int .i64 pbs, .int .i64 psize] 3)).bfr HN.out.2 (by decide)
  have hw4 : x ≤ w4.heap.size := by have := HLW.out; have := HN.out.2.size; simp at this; omega
  have HO := Lib.hid (And.intro HN.out.1 (And.intro hf4 hX4))
  have HLW := Lib.hid hw4
  clear cX
  have cX := hX4.cell
  clear hf4 hX4 hw4 HN HK110
  have hs5 : etag.size ≤ 64 := by have := HC.out.1; omega
  have he5 : (encS etag).length ≤ 70 := by
    unfold encS
    rw [List.length_append, bytesN_length]
    have : (enc etag.size).length ≤ 6 := enc_len6 (by omega)
    omega
  obtain ⟨b5, hb5⟩ : ∃ b, b = b4 ++ encS etag := ⟨_, rfl⟩
  have hlen5 : b5.length ≤ 412 := by have := HL4.out; rw [hb5, List.length_append]; omega
  have k111 := fun cap => rbytes_text w4 etag cap (by omega)
  have HE := Lib.hid he5
  have HK111 := Lib.hid k111
  have HL5 := Lib.hid hlen5
  have HB5 := Lib.hid hb5
  clear hs5 he5 hlen5 hb5 k111
  go_upto_region 6 with (first
     | (at_builtin
        refine law_append8 (.tmp 56) (.tmp 61) x _ _ _ b4 (encS etag) Aq cq rfl rfl rfl (HO.out.1.below HN.out.2 (Nat.le_refl _)) rfl HR.out (by have := HL4.out; have := HE.out; omega) (by have := HLW.out; have := HN.out.2.size; omega) ?_
        intro A5 c5 w5 o5 f5
        have HM := Lib.hid (And.intro o5 f5)
        clear o5 f5)
     | (go_at_call 111
        refine (HK111.out _).mono ?_
        rintro e wq ⟨vq, rfl, oq, bq⟩
        obtain ⟨Aq, cq, hvq, rq⟩ := oq.rd
        subst hvq
        have HN := Lib.hid (And.intro oq bq)
        have HR := Lib.hid rq
        clear oq bq rq) | fail)
  have hf5 := HO.out.2.1.trans ((BFr.of_below HN.out.2 HLW.out).trans HM.out.2)
  have hX5 := (HO.out.2.2.below HN.out.2 HO.out.2.2.lt).bfr HM.out.2 (by decide)
  have hw5 : x ≤ w5.heap.size := by have := HLW.out; have := HN.out.2.size; have := HM.out.2.size; omega
  have hO5 := HM.out.1
  rw [← HB5.out] at hO5
  have HO := Lib.hid (And.intro hO5 (And.intro hf5 hX5))
  have HLW := Lib.hid hw5
  clear cX
  have cX := hX5.cell
  clear hf5 hX5 hw5 hO5 HN HM HR HE HK111
  have hL6 : ∀ x ∈ ([part, (parts.length : Int)] : List Int), inG x := by
    have := HC.out.2
    simp only [List.mem_cons, List.not_mem_nil, or_false]
    rintro x hx
    rcases hx with rfl | rfl <;> first | exact this.1 | exact this.2.1 | exact this.2.2.1 | exact this.2.2.2.1 | exact this.2.2.2.2.1 | exact this.2.2.2.2.2.1 | exact this.2.2.2.2.2.2.1 | exact this.2.2.2.2.2.2.2.1 | exact this.2.2.2.2.2.2.2.2.1 | exact this.2.2.2.2.2.2.2.2.2.1 | exact this.2.2.2.2.2.2.2.2.2.2.1 | exact this.2.2.2.2.2.2.2.2.2.2.2.1 | (unfold inG; omega)
  have hf6 := flat_len _ hL6
  simp only [List.length_cons, List.length_nil] at hf6
  obtain ⟨b6, hb6⟩ : ∃ b, b = b5 ++ ([part, (parts.length : Int)] : List Int).flatMap encI := ⟨_, rfl⟩
  have hlen6 : b6.length ≤ 424 := by have := HL5.out; rw [hb6, List.length_append]; omega
  have hO6 := (HO.out.1).below ((Below.refl w5.heap.size w5).alloc (Nat.le_refl _) (.cells #[.int .i64 part, .int .i64 ((parts.length : Int))] 3)) (Nat.le_refl _)
  have k110 := rnums_any (w5.alloc (.cells #[.int .i64 part, .int .i64 ((parts.length : Int))] 3)) x w5.heap.size (w5.heap.size + 1) (.slice A5 (b4.length + (encS etag).length) c5) (.slice (some ⟨w5.heap.size, 0, none⟩) 2 2) b5 [part, (parts.length : Int)] hO6 (by have := HLW.out; simp; omega) (fun W' h => ints_lit [part, (parts.length : Int)] ((Blk.new w5 3 #[.int .i64 part, .int .i64 ((parts.length : Int))]).bfr h (by decide)) (by simp)) (HG.out _ hL6) (by have := HL5.out; omega)
  rw [← hb6] at k110
  have HK110 := Lib.hid k110
  have HL6 := Lib.hid hlen6
  have HB6 := Lib.hid hb6
  clear hL6 hf6 hlen6 hO6 hb6 k110
  go_upto_region 7 with (first | (go_at_call 110; refine HK110.out.mono ?_; rintro e w6 ⟨v6, rfl, o6, f6⟩; obtain ⟨⟨A6, c6, hv6⟩, _⟩ := id o6; subst hv6; have HN := Lib.hid (And.intro o6 f6); clear o6 f6) | fail)
  have hf6 := HO.out.2.1.trans ((BFr.of_below ((Below.refl w5.heap.size w5).alloc (Nat.le_refl _) (.cells #[.int .i64 part, .int .i64 ((parts.length : Int))] 3)) HLW.out).trans HN.out.2)
  have hX6 := (HO.out.2.2.alloc (.cells #[.int .i64 part, .int .i64 ((parts.length : Int))] 3)).bfr HN.out.2 (by decide)
  have hw6 : x ≤ w6.heap.size := by have := HLW.out; have := HN.out.2.size; simp at this; omega
  have HO := Lib.hid (And.intro HN.out.1 (And.intro hf6 hX6))
  have HLW := Lib.hid hw6
  clear cX
  have cX := hX6.cell
  clear hf6 hX6 hw6 HN HK110
  have hLt : ∀ x ∈ ([time, days] : List Int), inG x := by
    have := HC.out.2
    simp only [List.mem_cons, List.not_mem_nil, or_false]
    rintro x hx
    rcases hx with rfl | rfl
    · exact this.2.2.2.2.2.2.2.2.2.2.2.2.1
    · exact this.2.2.2.2.2.2.2.2.2.2.2.2.2.1
  have hft := flat_len _ hLt
  have hfp := flat_len _ HPP.out
  simp only [List.length_cons, List.length_nil] at hft
  obtain ⟨b7, hb7⟩ : ∃ b, b = b6 ++ parts.flatMap encI := ⟨_, rfl⟩
  obtain ⟨b8, hb8⟩ : ∃ b, b = b7 ++ ([time, days] : List Int).flatMap encI := ⟨_, rfl⟩
  have hlen7 : b7.length ≤ 520 := by have := HL6.out; rw [hb7, List.length_append]; omega
  have K1 : ∀ Wq, Below w6.heap.size w6 Wq → Calls Tryd.prog 110 #[.slice A6 b6.length c6, .slice A parts.length cp] Wq (PutB x Wq b7) := fun Wq h => by
    have h' := rnums_any Wq x lo hi (.slice A6 b6.length c6) (.slice A parts.length cp) b6 parts (HO.out.1.below h (Nat.le_refl _)) (by have := HLW.out; have := h.size; omega) (fun W' hf => HST.out W' ((HO.out.2.1.trans (BFr.of_below h HLW.out)).trans hf)) (HG.out _ HPP.out) (by have := HL6.out; omega)
    rw [← hb7] at h'
    exact h'
  have K2 : ∀ Wq g v7, OwnB Wq x v7 b7 → Blk Wq g 3 #[.int .i64 time, .int .i64 days] → x ≤ Wq.heap.size → Calls Tryd.prog 110 #[v7, .slice (some ⟨g, 0, none⟩) 2 2] Wq (PutB x Wq b8) := fun Wq g v7 ho hB hs => by
    have h' := rnums_any Wq x g (g + 1) v7 (.slice (some ⟨g, 0, none⟩) 2 2) b7 [time, days] ho hs (fun W' hf => ints_lit [time, days] (hB.bfr hf (by decide)) (by simp)) (HG.out _ hLt) (by omega)
    rw [← hb8] at h'
    exact h'
  have HK1 := Lib.hid K1
  have HK2 := Lib.hid K2
  have HB7 := Lib.hid hb7
  have HB8 := Lib.hid hb8
  clear K1 K2 hb7 hb8 hlen7 hft hfp hLt hcv
  have hput : b8 = putN { kind := kind, idn := idn, idb := idb, ids := ids, bucket := bucket, key := key, upn := upn, upb := upb, ups := ups, pbn := pbn, pbb := pbb, pbs := pbs, psize := psize, etag := etag, part := part, parts := parts, time := time, days := days } := by
    rw [HB8.out, HB7.out, HB6.out, HB5.out, HB4.out, HB3.out, HB2.out, HB1.out, HB0.out]
    simp [putN, putHead, List.flatMap_cons, List.append_assoc]
  have HPUT := Lib.hid hput
  clear hput
  go_region_held3 (fun w' => w'.cell? ⟨x, 15, none⟩ = some (.slice A parts.length cp) ∧ w'.cell? ⟨x, 16, none⟩ = some (.int .i64 time) ∧ w'.cell? ⟨x, 17, none⟩ = some (.int .i64 days)) (go_keep)
    (first
     | (go_at_call 110; (with_reducible refine (HK1.out w6.drew ((Below.refl _ _).drew)).mono ?_); rintro e w7 ⟨v7, rfl, o7, f7⟩; have HXq := Lib.hid ((HO.out.2.2.drew).bfr f7 d81); have qX := HXq.out.cell; have hw7 : x ≤ w7.heap.size := Nat.le_trans HLW.out f7.size; have HW7 := Lib.hid hw7; have HA := Lib.hid (And.intro o7 f7); clear o7 f7 hw7)
     | (go_at_call 110; (with_reducible refine (HK1.out (w6.alloc (.cells #[.int .i64 time, .int .i64 days] 3)).drew (((Below.refl _ _).alloc (Nat.le_refl _) (.cells #[.int .i64 time, .int .i64 days] 3)).drew)).mono ?_); rintro e w7 ⟨v7, rfl, o7, f7⟩; have HXq := Lib.hid ((HO.out.2.2.alloc (.cells #[.int .i64 time, .int .i64 days] 3)).drew.bfr f7 d81); have qX := HXq.out.cell; have hw7 : x ≤ w7.heap.size := Nat.le_trans HLW.out (Nat.le_trans ((Below.refl w6.heap.size w6).alloc (Nat.le_refl _) (.cells #[.int .i64 time, .int .i64 days] 3)).size f7.size); have HW7 := Lib.hid hw7; have HA := Lib.hid (And.intro o7 f7); clear o7 f7 hw7)
     | (go_at_call 110; (with_reducible refine (HK2.out (w7.alloc (.cells #[.int .i64 time, .int .i64 days] 3)) w7.heap.size _ (HA.out.1.below ((Below.refl _ _).alloc (Nat.le_refl _) (.cells #[.int .i64 time, .int .i64 days] 3)) (Nat.le_refl _)) (Blk.new w7 3 _) (Nat.le_trans HW7.out ((Below.refl w7.heap.size w7).alloc (Nat.le_refl _) (.cells #[.int .i64 time, .int .i64 days] 3)).size)).mono ?_); rintro e w8 ⟨v8, rfl, o8, f8⟩; have q8 := ((HXq.out.alloc (.cells #[.int .i64 time, .int .i64 days] 3)).bfr f8 d81).cell; have HZ := Lib.hid (And.intro o8 f8); clear o8 f8)
     | (go_at_call 110; (with_reducible refine (HK2.out w7 w6.heap.size _ HA.out.1 ((Blk.new w6 3 _).drew.bfr HA.out.2 d3) HW7.out).mono ?_); rintro e w8 ⟨v8, rfl, o8, f8⟩; have q8 := (HXq.out.bfr f8 d81).cell; have HZ := Lib.hid (And.intro o8 f8); clear o8 f8))
  · go_wp2_with (fail)
    go_ret
    have e1 := HX0.out
    have e2 := HZ.out.1
    have e3 := ((HO.out.2.1.1.drew.trans HA.out.2.1).alloc HW7.out (.cells #[.int .i64 time, .int .i64 days] 3)).trans HZ.out.2.1
    rw [e1] at e2 e3
    rw [HPUT.out] at e2
    exact ⟨v8, rfl, e2, e3⟩
  · go_wp2_with (fail)
    go_ret
    have e1 := HX0.out
    have e2 := HZ.out.1
    have e3 := ((HO.out.2.1.1.alloc HLW.out (.cells #[.int .i64 time, .int .i64 days] 3)).drew.trans HA.out.2.1).trans HZ.out.2.1
    rw [e1] at e2 e3
    rw [HPUT.out] at e2
    exact ⟨v8, rfl, e2, e3⟩
end Go.Proofs.YtnlncfjibbdimaaDoor

namespace Go.Proofs.YtnlncfjibbdimaaDoor
open Go.RowKit
set_option linter.unusedSimpArgs false
set_option linter.unusedVariables false
/-- What both Writes answer: the number of the error and the bytes. -/
def wans (l : List Cmd) : Nat × List Nat :=
  if 4096 < l.length then (11, []) else if l.all chkB then (0, sealN (ledN l)) else (18, [])
theorem wans_big {l : List Cmd} (h : 4096 < l.length) : wans l = (11, []) := by unfold wans; rw [if_pos h]
theorem wans_bad {l : List Cmd} (h : l.length ≤ 4096) (hb : ∃ c ∈ l, chkB c = false) : wans l = (18, []) := by
  unfold wans
  rw [if_neg (by omega), if_neg]
  intro ha
  obtain ⟨c, hc, hf⟩ := hb
  rw [List.all_eq_true.1 ha c hc] at hf
  cases hf
theorem wans_good {l : List Cmd} (h : l.length ≤ 4096) (ha : ∀ c ∈ l, chkB c = true) : wans l = (0, sealN (ledN l)) := by
  unfold wans
  rw [if_neg (by omega), if_pos (List.all_eq_true.2 ha)]
theorem wans_zero {l : List Cmd} (h : (wans l).1 = 0) : l.length ≤ 4096 ∧ (∀ c ∈ l, chkB c = true) ∧ (wans l).2 = sealN (ledN l) := by
  by_cases hb : 4096 < l.length
  · rw [wans_big hb] at h; cases h
  · by_cases ha : l.all chkB = true
    · have ha' := List.all_eq_true.1 ha
      exact ⟨by omega, ha', by rw [wans_good (by omega) ha']⟩
    · have : wans l = (18, []) := by unfold wans; rw [if_neg hb, if_neg ha]
      rw [this] at h; cases h
/-- What the document's Write answers. -/
def RWritePost (l : List Cmd) (w : World) (e : Ending) (w' : World) : Prop :=
  ∃ A c, e = .returned (.tuple #[.slice A (wans l).2.length c, .int .i64 ((wans l).1 : Nat)]) ∧ OwnB w' w.heap.size (.slice A (wans l).2.length c) (wans l).2 ∧ Below w.heap.size w w'
set_option maxRecDepth 100000 in
set_option maxHeartbeats 6400000 in
theorem rwrite_any (w : World) (lo hi : Nat) (v : Value) (l : List Cmd) (h : LedAt w lo hi v l) (hhi : hi ≤ w.heap.size) (hz : ∀ c ∈ l, c.Sized) : Calls Tryd.prog 71 #[v] w (RWritePost l w) := by
  obtain ⟨A, cap, rfl, hcap, hcm, hb⟩ := h.form
  obtain ⟨n, hn⟩ : ∃ n, n = l.length := ⟨_, rfl⟩
  have HL := Lib.hid (And.intro h (And.intro hhi (And.intro hz hn)))
  rw [← hn] at hcap hb ⊢
  simp only [maxLen] at hcm
  have hn63 : n ≤ 9223372036854775807 := by omega
  by_cases hbig : (n : Int) > 4096
  · clear h hhi hz hn
    go_enter Tryd.func71, Tryd.ntmps71
    go_wp2_with (fail)
    go_ret2
    have e := wans_big (l := l) (by have := HL.out.2.2.2; omega)
    unfold RWritePost
    rw [e]
    exact ⟨_, _, rfl, OwnB.nil_ _ _, Below.refl _ _⟩
  · have hn16 : n ≤ 4096 := by omega
    have k133 := rnum_any w n (by have := enc_len6 (n := n) (by omega); omega) (by omega)
    have HK := Lib.hid k133
    clear h hhi hz hn k133
    go_enter Tryd.func71, Tryd.ntmps71
    go_wp2_with (first | (go_at_call 133; refine HK.out.mono ?_; rintro e w1 ⟨v1, rfl, o1, b1⟩; obtain ⟨⟨A1, c1, hv1⟩, _⟩ := id o1; subst hv1; have H1 := Lib.hid (And.intro o1 b1); clear o1 b1) | fail)
    clear HK
    go_loopw [4, 15] (fun out i wr => ∃ (k : Nat) (bs : List Nat) (A' : Option Addr) (c' : Nat), k ≤ n ∧ i = .int .i64 k ∧ out = .slice A' bs.length c' ∧ bs = enc n ++ (l.take k).flatMap pieceN ∧ OwnB wr w.heap.size (.slice A' bs.length c') bs ∧ Below w.heap.size w wr ∧ ∀ c ∈ l.take k, chkB c = true) (fun _ i _ => n - (intOf i).toNat)
    case atStart => exact ⟨0, enc n, A1, c1, Nat.zero_le _, rfl, rfl, by simp, H1.out.1, H1.out.2, by simp⟩
    case round =>
      obtain ⟨k, bs, A', c', hk, rfl, rfl, hbs, hO, hB, hall⟩ := hrel
      obtain ⟨m, hm⟩ : ∃ m, m = bs.length := ⟨_, rfl⟩
      have HW := Lib.hid (And.intro hbs (And.intro hO (And.intro hB (And.intro hall hm))))
      rw [← hm]
      clear hbs hO hB hall hm
      by_cases hlt : (k : Int) < n
      · have hk' : k < l.length := by rw [← HL.out.2.2.2]; omega
        have hlk := List.getElem?_eq_getElem hk'
        have hL := HL.out.1
        rw [← HL.out.2.2.2] at hL
        obtain ⟨b, o, pv, rfl, hlo', hhi', hr0, hparts⟩ := hL.range hlk
        obtain ⟨c, hc⟩ : ∃ c, c = l[k] := ⟨_, rfl⟩
        rw [← hc] at hr0 hparts hlk
        have hrange : wr.rangeAt b (o + k * 18) (c.cells pv) := rangeAt_fr hr0 (Fr.of_below HW.out.2.2.1 (fun _ => False)) (by have := HL.out.2.1; omega) (fun h => h)
        have hone := intsAt_oneW hparts
        have hcl : c ∈ l := List.mem_of_getElem? hlk
        have hbR : Below wr.heap.size wr (wr.alloc (.cells (c.cells pv).toArray 81)) := (Below.refl wr.heap.size wr).alloc (Nat.le_refl _) _
        have hbA := HW.out.2.2.1.trans (hbR.mono HW.out.2.2.1.size)
        have hp1 := hparts.fr (Fr.of_below hbA (fun _ => False)) HL.out.2.1 (fun _ _ _ h => h)
        have hx := Blk.new wr 81 (c.cells pv).toArray
        have k46 := inForm_any c (HL.out.2.2.1 c hcl) (wr.alloc (.cells (c.cells pv).toArray 81)) lo hi pv hp1 (Nat.le_trans HL.out.2.1 hbA.size)
        rw [in_chk] at k46
        have hrx := hx.range
        have hnext : (l.take (k + 1)).flatMap pieceN = (l.take k).flatMap pieceN ++ pieceN c := by
          rw [List.take_add_one, hlk, List.flatMap_append]
          simp
        have HP := Lib.hid hparts
        have HX := Lib.hid hx
        have HC := Lib.hid (And.intro hlk (And.intro hbR (And.intro hone hnext)))
        have HK := Lib.hid k46
        clear hL hlk hr0 hparts hone hcl hp1 hbA hbR hc hx hnext k46
        cases hck : chkB c with
        | false =>
          have HCK := Lib.hid hck
          clear hck
          go_wp2_with (first
            | ((with_reducible refine law_load 81 (.tmp 17) b (o + k * 18) (c.cells pv) ?_ hrange Tryd.underlying81 ?_ ?_ ?_); rfl; rfl; exact cmd_info)
            | ((with_reducible refine law_store_fresh 81 (.tmp 6) (.tmp 18) wr 81 _ (c.cells pv).toArray ?_ ?_ rfl ?_ ?_ HC.out.2.2.1 ?_); rfl; rfl; exact cmd_info; rfl)
            | ((with_reducible refine law_load 81 (.tmp 6) wr.heap.size 0 (c.cells pv) ?_ hrx Tryd.underlying81 ?_ ?_ ?_); rfl; rfl; exact cmd_info)
            | (go_at_call 46
               have k46 := HK.out
               rw [HCK.out] at k46
               refine k46.mono ?_
               rintro e w3 ⟨rfl, b3⟩
               have H3 := Lib.hid (HW.out.2.2.1.trans ((HC.out.2.1.trans (b3.mono HC.out.2.1.size)).mono HW.out.2.2.1.size))
               clear k46 b3)
            | fail)
          go_ret2
          have e := wans_bad (l := l) (by have := HL.out.2.2.2; omega) ⟨c, List.mem_of_getElem? HC.out.1, HCK.out⟩
          unfold RWritePost
          rw [e]
          exact ⟨_, _, rfl, OwnB.nil_ _ _, H3.out⟩
        | true =>
          have HCK := Lib.hid hck
          clear hck
          go_upto_region 9 with (first
            | ((with_reducible refine law_load 81 (.tmp 17) b (o + k * 18) (c.cells pv) ?_ hrange Tryd.underlying81 ?_ ?_ ?_); rfl; rfl; exact cmd_info)
            | ((with_reducible refine law_store_fresh 81 (.tmp 6) (.tmp 18) wr 81 _ (c.cells pv).toArray ?_ ?_ rfl ?_ ?_ HC.out.2.2.1 ?_); rfl; rfl; exact cmd_info; rfl)
            | ((with_reducible refine law_load 81 (.tmp 6) wr.heap.size 0 (c.cells pv) ?_ hrx Tryd.underlying81 ?_ ?_ ?_); rfl; rfl; exact cmd_info)
            | (go_at_call 46
               have k46 := HK.out
               rw [HCK.out] at k46
               refine k46.mono ?_
               rintro e w3 ⟨rfl, b3⟩
               have hb3 := HC.out.2.1.trans (b3.mono HC.out.2.1.size)
               have hrx3 := (HX.out.below b3 HX.out.lt).range
               have H3 := Lib.hid hb3
               clear k46 b3 hb3)
            | fail)
          have hp3 := HP.out.fr (Fr.of_below (HW.out.2.2.1.trans (H3.out.mono HW.out.2.2.1.size)) (fun _ => False)) HL.out.2.1 (fun _ _ _ h => h)
          have k48 := rput_any c (Lens.of (chk_rng HCK.out)) (chk_rng HCK.out).parts.1 w3 lo hi pv hp3 (Nat.le_trans HL.out.2.1 (Nat.le_trans HW.out.2.2.1.size H3.out.size))
          have HK48 := Lib.hid k48
          have hlen : bs.length + (pieceN c).length ≤ 140737488355328 := by
            have q1 := flat_pieceN_len _ HW.out.2.2.2.1
            have q2 := pieceN_len HCK.out
            have q3 := enc_len6 (n := n) (by omega)
            rw [List.length_take] at q1
            rw [HW.out.1, List.length_append]
            have : min k l.length ≤ 4096 := by omega
            omega
          have HLEN := Lib.hid hlen
          clear k48 hp3 hlen
          go_upto_region 10 with (first
            | ((with_reducible refine law_load 81 (.tmp 6) wr.heap.size 0 (c.cells pv) ?_ hrx3 Tryd.underlying81 ?_ ?_ ?_); rfl; rfl; exact cmd_info)
            | (go_at_call 48
               refine HK48.out.mono ?_
               rintro e w4 ⟨v4, rfl, o4, b4⟩
               obtain ⟨A4, c4, rfl, r4⟩ := o4.rd
               have k111 := rbytes_any w4 w3.heap.size w4.heap.size A4 c4 (putN c) r4 (Nat.le_refl _) (by
                 have := pieceN_len HCK.out
                 unfold pieceN at this
                 rw [List.length_append] at this
                 omega)
               have HK111 := Lib.hid k111
               have H4 := Lib.hid (H3.out.trans (b4.mono H3.out.size))
               clear o4 b4 r4 k111)
            | (go_at_call 111
               refine HK111.out.mono ?_
               rintro e w5 ⟨v5, rfl, o5, b5⟩
               have o5' : OwnB w5 w4.heap.size v5 (pieceN c) := o5
               obtain ⟨A5, c5, rfl, r5⟩ := o5'.rd
               have hb5 := H4.out.trans (b5.mono H4.out.size)
               have H5 := Lib.hid (And.intro r5 (And.intro hb5 (HW.out.2.1.below hb5 (Nat.le_refl _))))
               clear o5 o5' b5 r5 hb5)
            | (at_builtin
               refine law_append8 (.tmp 22) (.tmp 25) w.heap.size w4.heap.size w5.heap.size (.slice A' bs.length c') bs (pieceN c) A5 c5 rfl rfl (by rw [HW.out.2.2.2.2]; rfl) H5.out.2.2 rfl H5.out.1 HLEN.out (Nat.le_trans HW.out.2.2.1.size H5.out.2.1.size) ?_
               intro A6 c6 W6 o6 f6
               have H6 := Lib.hid (And.intro o6 (HW.out.2.2.1.trans ((H5.out.2.1.mono HW.out.2.2.1.size).trans f6.1)))
               clear o6 f6)
            | fail)
          go_wp2_with (fail)
          go_roundw
          case rel => exact ⟨k + 1, bs ++ pieceN c, A6, c6, by omega, by go_num, by rw [List.length_append], by rw [HW.out.1, HC.out.2.2.2, List.append_assoc], by rw [List.length_append]; exact H6.out.1, H6.out.2, fun d hd => by
            rw [List.take_add_one, HC.out.1] at hd
            rcases List.mem_append.1 hd with h | h
            · exact HW.out.2.2.2.1 d h
            · simp at h
              rw [h]
              exact HCK.out⟩
          case measure => simp [intOf]; omega
      · have hkn : k = l.length := by have := HL.out.2.2.2; omega
        have hall := HW.out.2.2.2.1
        have hbs := HW.out.1
        rw [hkn, List.take_length] at hall hbs
        rw [HL.out.2.2.2] at hbs
        have hled : bs = ledN l := hbs
        have hl16 : l.length ≤ 4096 := by have := HL.out.2.2.2; omega
        obtain ⟨A7, c7, hv7, r7⟩ := HW.out.2.1.rd
        injection hv7 with e1 _ e2
        subst e1 e2
        have k134 := rseal_any wr wr.heap.size c' A' bs (r7.wider (Nat.zero_le _) (Nat.le_refl _)) (Nat.le_refl _) (by have := ledN_len hall hl16; rw [hled]; omega) (by rw [hled]; exact ledN_byte l)
        have HK134 := Lib.hid k134
        rw [← HW.out.2.2.2.2] at HK134
        have HE := Lib.hid (And.intro hall (And.intro hled hl16))
        clear hkn hall hbs hled hl16 r7 k134
        go_wp2_with (first | (go_at_call 134; refine HK134.out.mono ?_; rintro e w8 ⟨v8, rfl, o8, b8⟩; have H8 := Lib.hid (And.intro o8 b8); clear o8 b8) | fail)
        go_ret2
        have e := wans_good HE.out.2.2 HE.out.1
        have o8 := H8.out.1
        rw [HE.out.2.1] at o8
        obtain ⟨A8, c8, rfl⟩ := o8.1
        unfold RWritePost
        rw [e]
        exact ⟨A8, c8, rfl, ⟨o8.1, o8.2.1, ownsRow_base o8.2.2 HW.out.2.2.1.size⟩, HW.out.2.2.1.trans (H8.out.2.mono HW.out.2.2.1.size)⟩
section
open Go.ChangeShapes Go.WideShapes Go.ChangeAt Go.RowKit Go.Deep
variable {H : Type} {enc : TypeId × Value → H} {w : World} {base : Nat} {spare : Nat → Bool} {held : Bool} {fuel : Nat} {cs : List Value} {x : DataW H × List MemPlace}
theorem open_led_sz (h : DataW.trod enc Tryd.prog w base spare held fuel 46 cs = some x) (hx : Light 46 x.1) : ∃ v l, cs = [v] ∧ LedAt w 0 w.heap.size v l ∧ ∀ c ∈ l, c.Sized := by
  obtain ⟨A, n, c, rfl, h1, h2, h3, h4⟩ := open_rows 18 184 Tryd.underlying46 cellsOf81 bytesOf81 h hx
  obtain ⟨f, hf⟩ := choose_lt (α := List Value × Cmd) (n := n) (p := fun i z => (CmdAt w 0 w.heap.size z.1 z.2 ∧ z.2.Sized) ∧ z.1.length = 18 ∧ ∃ ad, A = some ad ∧ ∀ j, j < 18 → w.cell? (ad.add (i * 18 + j)) = z.1[j]?) (fun i hi => by
    obtain ⟨ad, cs', m, y, e1, e2, e3, e4, e5⟩ := h4 i hi
    obtain ⟨z, hz⟩ := open_cmd_sz e4 e5
    exact ⟨(cs', z), hz, e3, ad, e1, e2⟩)
  have hlen : ((List.range n).map fun i => (f i).2).length = n := by simp
  have hr18 : ∀ r ∈ (List.range n).map (fun i => (f i).1), r.length = 18 := by
    intro r hr
    obtain ⟨i, hi, rfl⟩ := List.mem_map.1 hr
    exact (hf i (by simpa using hi)).2.1
  have hfl := flatten_len _ hr18
  refine ⟨_, (List.range n).map fun i => (f i).2, rfl, ⟨A, c, (List.range n).map fun i => (f i).1, by rw [hlen], by rw [hlen]; exact h1, h2, by rw [hlen]; exact reach47 h3, ?_, ?_, ?_⟩, ?_⟩
  · rw [hlen]
    refine ⟨by rw [hfl]; simp, fun hn => ?_⟩
    obtain ⟨_, h18, ad, rfl, hc⟩ := hf 0 hn
    refine ⟨ad, rfl, Nat.zero_le _, ?_, ?_⟩
    · have hc0 := hc 0 (by omega)
      rw [List.getElem?_eq_getElem (by omega)] at hc0
      have := World.block_lt_of_cell? w _ hc0
      rwa [block_of_add] at this
    · intro j u hu
      have hj : j < n * 18 := by
        have := (List.getElem?_eq_some_iff.1 hu).1
        rw [hfl] at this
        simpa using this
      have hjn : j / 18 < n := by omega
      obtain ⟨_, _, ad', e, hc'⟩ := hf (j / 18) hjn
      injection e with e
      subst e
      have hj' : j = j / 18 * 18 + j % 18 := by omega
      have hg := flatten_get _ hr18 (j / 18) (j % 18) (f (j / 18)).1 (by simp [hjn]) (by omega)
      rw [← hj'] at hg
      have := hc' (j % 18) (by omega)
      rw [← hj'] at this
      rw [this, ← hg, hu]
  · simp
  · intro i r cm hr hcm
    have hi : i < n := by have := (List.getElem?_eq_some_iff.1 hr).1; simpa using this
    simp [hi] at hr hcm
    subst hr; subst hcm
    exact (hf i hi).1.1
  · intro d hd
    obtain ⟨i, hi, rfl⟩ := List.mem_map.1 hd
    exact (hf i (by simpa using hi)).1.2
end
end Go.Proofs.YtnlncfjibbdimaaDoor
namespace Go.Proofs.YtnlncfjibbdimaaDoor
open Go.ChangeShapes Go.WideShapes Go.ChangeAt Go.RowKit Go.Deep
set_option linter.unusedSimpArgs false
set_option linter.unusedVariables false
end Go.Proofs.YtnlncfjibbdimaaDoor
