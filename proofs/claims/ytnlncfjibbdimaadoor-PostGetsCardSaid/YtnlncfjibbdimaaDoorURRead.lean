/-
  The walk of the document's Read of a ledger.
  bollardnum's Bytes and Kept; CommandGets: the walk, and off the row's reading of its argument.
  CommandReads: the plain law of bytes that a ledger is read from, and the law's walk.
  Messages (layer 15), the plain law: their bytes, and what is read from bytes. No walk stands here.
  Messages (layer 15): the small questions: node, none, legal, kind, goodLedger.
  post.Check of every message: region by region; the long region is cut behind each of its questions.
-/
import Derived.Test.YtnlncfjibbdimaaDoorURefWire
import Derived.Test.YtnlncfjibbdimaaDoorUReadX
import Derived.Test.YtnlncfjibbdimaaDoorUDGet
import Derived.Test.YtnlncfjibbdimaaDoorURdX
import Derived.Laws.MakeOwn
import Derived.Deep.RegionHeld3
import Derived.Test.YtnlncfjibbdimaaDoorUBase
import Derived.Test.YtnlncfjibbdimaaDoorULaws
import Derived.Test.YtnlncfjibbdimaaDoorUSameC
import Derived.Test.YtnlncfjibbdimaaDoorUSameL
import Derived.Laws.IdiomStrings
import Derived.Deep.DeepCutAuto
import Derived.Test.YtnlncfjibbdimaaDoorUPiece
import Derived.Test.YtnlncfjibbdimaaDoorULex
namespace Go.Proofs.YtnlncfjibbdimaaDoor
open Go.RowKit
set_option linter.unusedSimpArgs false
set_option linter.unusedVariables false
theorem OwnB.frz {w w' : World} {lo z : Nat} {v : Value} {bs : List Nat} {t : TypeId} {cs : Array Value} (h : OwnB w lo v bs) (f : Fr w.heap.size (fun k => k = z) w w') (hB : Blk w z t cs) (ht : t ≠ 5) : OwnB w' lo v bs := by
  refine ⟨h.1, h.2.1, h.2.2.1, ?_⟩
  rcases h.2.2.2 with h7 | ⟨k, cap, cur, he, hb', hk, hrr⟩
  · exact .inl h7
  · have hk' : Blk w k 5 cur := hk
    have hzk : k ≠ z := fun e => by
      subst e
      unfold Blk at hB hk'
      rw [hB] at hk'
      injection hk' with hk'
      injection hk' with _ hk'
      exact ht hk'
    exact .inr ⟨k, cap, cur, he, hb', hk'.fr f hk'.lt hzk, hrr⟩
theorem OwnB.frT {w w' : World} {lo : Nat} {v : Value} {bs : List Nat} {e : TypeId} (h : OwnB w lo v bs) (f : Fr w.heap.size (fun k => ∃ cs, Blk w k e cs) w w') (he : 5 ≠ e) : OwnB w' lo v bs := by
  refine ⟨h.1, h.2.1, h.2.2.1, ?_⟩
  rcases h.2.2.2 with h7 | ⟨k, cap, cur, hq, hb', hk, hrr⟩
  · exact .inl h7
  · have hk' : Blk w k 5 cur := hk
    exact .inr ⟨k, cap, cur, hq, hb', hk'.frT f (Nat.le_refl _) he, hrr⟩
theorem pBytes_piece {most : Nat} {R : List Nat} (hR : ∀ x ∈ R, x < 256) (h : R.length ≤ most) : pBytes most R = pPiece R := by
  unfold pBytes pPiece
  cases hd : dec R with
  | none => rfl
  | some x =>
    obtain ⟨n, r⟩ := x
    have e := congrArg List.length (dec_inv hR hd)
    rw [List.length_append] at e
    simp only
    by_cases hn : n ≤ r.length
    · rw [if_pos ⟨by omega, hn⟩, if_pos hn]
    · rw [if_neg (fun h => hn h.2), if_neg hn]
theorem RGetPost.some_ {bs : List Nat} {w w' : World} {e : Ending} {c : Cmd} (h : RGetPost bs w e w') (hc : gcmd bs = some c) : ∃ pv, e = .returned (.tuple #[.agg (c.cells pv).toArray, .bool true]) ∧ OwnInts w' w.heap.size w'.heap.size pv c.parts ∧ Below w.heap.size w w' := by
  rcases h with ⟨d, pv, h1, h2, h3, h4, h5⟩ | ⟨h1, _⟩
  · rw [gcmd_some h1 h2] at hc
    injection hc with hc
    rw [← hc]
    exact ⟨pv, h3, h4, h5⟩
  · rw [gcmd_none h1] at hc
    cases hc
theorem RGetPost.none_ {bs : List Nat} {w w' : World} {e : Ending} (h : RGetPost bs w e w') (hc : gcmd bs = none) : e = .returned (.tuple #[.agg (zeroCmd.cells (.slice none 0 0)).toArray, .bool false]) ∧ Below w.heap.size w w' := by
  rcases h with ⟨d, pv, h1, h2, h3, h4, h5⟩ | ⟨h1, h2, h3⟩
  · rw [gcmd_some h1 h2] at hc
    cases hc
  · exact ⟨h2, h3⟩
theorem OwnLed.made (w : World) (lo : Nat) (hlo : lo ≤ w.heap.size) : OwnLed (w.alloc (.cells #[] 81)) lo (w.alloc (.cells #[] 81)).heap.size (.slice (some ⟨w.heap.size, 0, none⟩) 0 0) [] :=
  ⟨[], ⟨⟨rfl, .inr ⟨w.heap.size, 0, #[], rfl, hlo, heap_alloc_new w _, Nat.le_refl _, Nat.zero_le _, rfl, rfl⟩⟩, fun g hg => by simp [Value.ownBlock] at hg; subst hg; simp⟩, by simp, rfl, fun i r c h _ => by simp at h⟩
/-- What the document's Read answers of opened bytes. -/
def RReadIn (xs : List Nat) (w : World) (e : Ending) (w' : World) : Prop :=
  (rdLed xs = none ∧ e = .returned (.tuple #[.slice none 0 0, .int .i64 5])) ∨ ∃ l v, rdLed xs = some l ∧ e = .returned (.tuple #[v, .int .i64 0]) ∧ OwnLed w' w.heap.size w'.heap.size v l
def RReadLPost (bs : List Nat) (w : World) (e : Ending) (w' : World) : Prop :=
  Below w.heap.size w w' ∧
  ((bs.length < 4 ∧ e = .returned (.tuple #[.slice none 0 0, .int .i64 5])) ∨
   (4 ≤ bs.length ∧ ¬ sealN (bs.take (bs.length - 4)) = bs ∧ e = .returned (.tuple #[.slice none 0 0, .int .i64 6])) ∨
   (∃ xs, bs = sealN xs ∧ RReadIn xs w e w'))
end Go.Proofs.YtnlncfjibbdimaaDoor

namespace Go.Proofs.YtnlncfjibbdimaaDoor
open Go.RowKit
set_option linter.unusedSimpArgs false
set_option linter.unusedVariables false
def marks : List Nat := [201, 202, 203, 204, 205, 206]
/-- A copy at ad with the six marks behind it. -/
def Marked (w : World) (lo b c : Nat) (bs : List Nat) : Prop := Rd w lo w.heap.size 1 (some ⟨b, 0, none⟩) (bs ++ marks).length (u8s (bs ++ marks)) ∧ bs.length + 6 ≤ c ∧ c ≤ 9223372036854775807
theorem Rd.take {w : World} {lo hi b o : Nat} {xs ys : List Nat} (h : Rd w lo hi 1 (some ⟨b, o, none⟩) (xs ++ ys).length (u8s (xs ++ ys))) : Rd w lo hi 1 (some ⟨b, o, none⟩) xs.length (u8s xs) := by
  have := h.sub (p := 0) (xs := xs) (fun j x hj => by rw [Nat.zero_add, List.getElem?_append_left (List.getElem?_eq_some_iff.1 hj).1]; exact hj)
  rw [Nat.add_zero] at this
  exact this
end Go.Proofs.YtnlncfjibbdimaaDoor
namespace Go.Proofs.YtnlncfjibbdimaaDoor
open Go.ChangeShapes Go.WideShapes Go.ChangeAt Go.RowKit Go.Deep
set_option linter.unusedSimpArgs false
set_option linter.unusedVariables false
section
variable {H : Type} {enc : TypeId × Value → H} {w : World} {base : Nat} {spare : Nat → Bool} {held : Bool} {fuel : Nat} {cs : List Value} {x : DataW H × List MemPlace}
theorem bounds_u8 {n : Int} (h : (Lit.int .u8 n).wf = true) : 0 ≤ n ∧ n ≤ 255 := by
  simp [Lit.wf, IntKind.min, IntKind.max, IntKind.signed, IntKind.bits] at h
  omega
theorem trod_u8 (h : DataW.trod enc Tryd.prog w base spare held fuel 5 cs = some x) : ∃ n : Nat, cs = [.int .u8 n] ∧ n < 256 := by
  obtain ⟨n, h1, _, h2⟩ := DataW.trod_int Tryd.underlying5 h
  have := bounds_u8 h2
  exact ⟨n.toNat, by rw [Int.toNat_of_nonneg this.1]; exact h1, by omega⟩
theorem bytesOf5 : Tryd.prog.bytesOf 5 = 1 := by kernel_rfl
theorem cellsOf5 : Tryd.prog.cellsOf 5 = 1 := by kernel_rfl
/-- A slice of bytes reads as a row. -/
theorem open_bytes (h : DataW.trod enc Tryd.prog w base spare held fuel 84 cs = some x) (hx : Light 84 x.1) :
    ∃ (A : Option Addr) (c : Nat) (bs : List Nat), cs = [.slice A bs.length c] ∧ Rd w 0 w.heap.size 1 A bs.length (u8s bs) ∧ bs.length ≤ 140737488351232 ∧ (bs.length ≤ c ∧ c ≤ 9223372036854775807) ∧ (A = none → c = 0) ∧ ∀ b ∈ bs, b < 256 := by
  have hnil : ∀ A n c, cs = [.slice A n c] → A = none → c = 0 := fun A n c hcs hA => by
    rcases DataW.trod_slice Tryd.underlying84 h with ⟨e, _⟩ | ⟨a, len, cap, elems, rest, n', _, e, _⟩
    · rw [e] at hcs
      injection hcs with hcs
      injection hcs with _ _ hcs
      exact hcs.symm
    · rw [e] at hcs
      injection hcs with hcs
      injection hcs with hcs
      rw [hA] at hcs
      cases hcs
  obtain ⟨A, n, c, rfl, h1, h2, h3, h4⟩ := open_rows 1 1 Tryd.underlying84 cellsOf5 bytesOf5 h hx
  obtain ⟨f, hf⟩ := choose_lt (α := Nat) (n := n) (p := fun i z => z < 256 ∧ ∃ ad, A = some ad ∧ w.cell? (ad.add i) = some (.int .u8 z)) (fun i hi => by
    obtain ⟨ad, cs', m, y, e1, e2, e3, e4, _⟩ := h4 i hi
    obtain ⟨z, rfl, hz⟩ := trod_u8 e4
    exact ⟨z, hz, ad, e1, by have := e2 0 (by omega); simpa using this⟩)
  have hlen : ((List.range n).map f).length = n := by simp
  simp only [maxLen] at h2
  refine ⟨A, c, (List.range n).map f, by rw [hlen], ?_, by rw [hlen]; unfold reachBytes at h3; omega, ⟨by rw [hlen]; exact h1, by omega⟩, hnil A n c rfl, ?_⟩
  · rw [hlen]
    refine ⟨by simp [u8s], fun hn => ?_⟩
    obtain ⟨_, ad, rfl, hc⟩ := hf 0 hn
    refine ⟨ad, rfl, Nat.zero_le _, ?_, ?_⟩
    · have := World.block_lt_of_cell? w _ hc
      rwa [block_of_add] at this
    · intro j u hu
      have hj : j < n := by
        have := (List.getElem?_eq_some_iff.1 hu).1
        simpa [u8s] using this
      obtain ⟨_, ad', e, hc'⟩ := hf j hj
      injection e with e
      subst e
      have : u = .int .u8 (f j) := by
        simp [u8s, hj] at hu
        exact hu.symm
      rw [this]
      exact hc'
  · intro b hb
    obtain ⟨i, hi, rfl⟩ := List.mem_map.1 hb
    exact (hf i (List.mem_range.1 hi)).1
end
end Go.Proofs.YtnlncfjibbdimaaDoor
namespace Go.Proofs.YtnlncfjibbdimaaDoor
open Go.RowKit
set_option linter.unusedSimpArgs false
set_option linter.unusedVariables false
/-- The command that is answered. -/
def gans (bs : List Nat) : Cmd := (gcmd bs).getD zeroCmd
theorem GetAny.flat {a2 : Addr} {bs : List Nat} {w w' : World} {e : Ending} (h : GetAny a2 bs w e w') :
    ∃ pv, e = .returned (.tuple #[.agg ((gans bs).cells pv).toArray, if (gcmd bs).isSome = true then .nilIface else errv a2]) ∧ IntsAt w' 0 w'.heap.size pv (gans bs).parts ∧ Below w.heap.size w w' := by
  rcases h with ⟨c, h1, h2, pv, rfl, ho, hb⟩ | ⟨h1, rfl, hb⟩
  · unfold gans
    rw [gcmd_some h1 h2]
    exact ⟨pv, rfl, (ho.wider (Nat.zero_le _) (Nat.le_refl _)).at_, hb⟩
  · unfold gans
    rw [gcmd_none h1]
    exact ⟨.slice none 0 0, rfl, IntsAt.nil_ _ _ _, hb⟩
theorem RGetPost.flat {bs : List Nat} {w w' : World} {e : Ending} (h : RGetPost bs w e w') :
    ∃ pv, e = .returned (.tuple #[.agg ((gans bs).cells pv).toArray, .bool (gcmd bs).isSome]) ∧ IntsAt w' 0 w'.heap.size pv (gans bs).parts ∧ Below w.heap.size w w' := by
  rcases h with ⟨c, pv, h1, h2, rfl, ho, hb⟩ | ⟨h1, rfl, hb⟩
  · unfold gans
    rw [gcmd_some h1 h2]
    exact ⟨pv, rfl, (ho.wider (Nat.zero_le _) (Nat.le_refl _)).at_, hb⟩
  · unfold gans
    rw [gcmd_none h1]
    exact ⟨.slice none 0 0, rfl, IntsAt.nil_ _ _ _, hb⟩
theorem Marked.below {w w' : World} {lo b c : Nat} {bs : List Nat} (h : Marked w lo b c bs) (hb : Below w.heap.size w w') : Marked w' lo b c bs :=
  ⟨(h.1.fr (Fr.of_below hb (fun _ => False)) (Nat.le_refl _) (fun _ _ _ h => h)).wider (Nat.le_refl _) hb.size, h.2⟩
/-- What holds through the law. -/
def GSt (w : World) (lo b c' x : Nat) (cm : Cmd) (pv : Value) (bs : List Nat) (W : World) : Prop := Below w.heap.size w W ∧ Marked W lo b c' bs ∧ Blk W x 81 (cm.cells pv).toArray ∧ IntsAt W 0 x pv cm.parts
theorem GSt.below {w W W' : World} {lo b c' x : Nat} {cm : Cmd} {pv : Value} {bs : List Nat} (h : GSt w lo b c' x cm pv bs W) (hb : Below W.heap.size W W') : GSt w lo b c' x cm pv bs W' :=
  ⟨h.1.trans (hb.mono h.1.size), h.2.1.below hb, h.2.2.1.below hb h.2.2.1.lt, h.2.2.2.fr (Fr.of_below hb (fun _ => False)) (Nat.le_of_lt h.2.2.1.lt) (fun _ _ _ h => h)⟩
end Go.Proofs.YtnlncfjibbdimaaDoor
namespace Go.Proofs.YtnlncfjibbdimaaDoor
open Go.ChangeShapes Go.WideShapes Go.ChangeAt Go.RowKit Go.Deep
set_option linter.unusedSimpArgs false
set_option linter.unusedVariables false
end Go.Proofs.YtnlncfjibbdimaaDoor

namespace Go.Proofs.YtnlncfjibbdimaaDoor
open Go.RowKit
set_option linter.unusedSimpArgs false
set_option linter.unusedVariables false
theorem pPiece_inv {R r one : List Nat} (hR : ∀ x ∈ R, x < 256) (h : pPiece R = some (one, r)) : R = enc one.length ++ one ++ r ∧ (∀ x ∈ one, x < 256) ∧ ∀ x ∈ r, x < 256 := by
  unfold pPiece at h
  cases hd : dec R with
  | none => rw [hd] at h; cases h
  | some y =>
    obtain ⟨n, r1⟩ := y
    rw [hd] at h
    simp only at h
    split at h
    · rename_i hn
      injection h with h
      injection h with e1 e2
      have hr := dec_rest hR hd
      refine ⟨?_, fun x hx => hr x (by rw [← e1] at hx; exact List.mem_of_mem_take hx), fun x hx => hr x (by rw [← e2] at hx; exact List.mem_of_mem_drop hx)⟩
      rw [dec_inv hR hd, ← e1, ← e2, List.length_take, Nat.min_eq_left hn, List.append_assoc, List.take_append_drop]
    · cases h
theorem gcmd_all {one : List Nat} {c : Cmd} (h1 : ∀ x ∈ one, x < 256) (h : gcmd one = some c) : one = putN c ∧ chkB c = true ∧ c.Sized := by
  obtain ⟨hp, hk⟩ := gcmd_inv h
  have := (pCmd_inv h1 hp).1
  exact ⟨pCmd_put h1 hp hk, hk, by simp only [maxLen]; omega, by simp only [maxLen]; omega, by simp only [maxLen]; omega⟩
theorem pCmds_inv : ∀ (k : Nat) {R r : List Nat} {l : List Cmd}, (∀ x ∈ R, x < 256) → pCmds k R = some (l, r) → R = l.flatMap pieceN ++ r ∧ l.length = k ∧ ∀ c ∈ l, chkB c = true ∧ c.Sized
  | 0, R, r, l, _, h => by
    injection h with h
    injection h with e1 e2
    subst e1 e2
    exact ⟨rfl, rfl, fun c hc => by cases hc⟩
  | k + 1, R, r, l, hR, h => by
    obtain ⟨⟨one, r1⟩, hp, h⟩ := bind_some_inv h
    obtain ⟨c, hc, h⟩ := bind_some_inv h
    obtain ⟨⟨l2, r2⟩, hl, h⟩ := bind_some_inv h
    injection h with h
    injection h with e1 e2
    obtain ⟨g1, g2, g3⟩ := pPiece_inv hR hp
    obtain ⟨q1, q2, q3⟩ := gcmd_all g2 hc
    obtain ⟨i1, i2, i3⟩ := pCmds_inv k g3 hl
    subst e1
    simp only at e2 i1
    subst e2
    refine ⟨?_, by simp [i2], fun d hd => ?_⟩
    · rw [g1, i1, List.flatMap_cons, q1, pieceN, List.append_assoc (enc _ ++ putN c)]
    · rcases List.mem_cons.1 hd with rfl | hd
      · exact ⟨q2, q3⟩
      · exact i3 d hd
/-- What was read is written as it was. -/
theorem rdLed_inv {xs : List Nat} {l : List Cmd} (h256 : ∀ x ∈ xs, x < 256) (h : rdLed xs = some l) : ledN l = xs ∧ l.length ≤ 4096 ∧ (∀ c ∈ l, chkB c = true) ∧ ∀ c ∈ l, c.Sized := by
  unfold rdLed at h
  cases hd : dec xs with
  | none => rw [hd] at h; cases h
  | some y =>
    obtain ⟨n, r⟩ := y
    rw [hd] at h
    simp only at h
    split at h
    · rename_i hn
      obtain ⟨⟨l2, r2⟩, hp, h⟩ := bind_some_inv h
      simp only at h
      split at h
      · rename_i h0
        injection h with h
        subst h h0
        obtain ⟨i1, i2, i3⟩ := pCmds_inv n (dec_rest h256 hd) hp
        rw [List.append_nil] at i1
        exact ⟨by rw [ledN, i2, ← i1, ← dec_inv h256 hd], by omega, fun c hc => (i3 c hc).1, fun c hc => (i3 c hc).2⟩
      · cases h
    · cases h
/-- What both Reads answer: the number of the error and the ledger. -/
def rans (bs : List Nat) : Nat × List Cmd :=
  if bs.length < 4 then (5, []) else if sealN (bs.take (bs.length - 4)) = bs then
    match rdLed (bs.take (bs.length - 4)) with
    | none => (5, [])
    | some l => (0, l)
  else (6, [])
def rerr (a2 a8 : Addr) (k : Nat) : Value := if k = 0 then .nilIface else if k = 5 then errv a2 else errv a8
theorem rans_seal (xs : List Nat) : rans (sealN xs) = match rdLed xs with | none => (5, []) | some l => (0, l) := by
  have e : (sealN xs).take ((sealN xs).length - 4) = xs := by
    rw [sealN_length, Nat.add_sub_cancel, sealN, List.take_left]
  unfold rans
  rw [e, if_neg (by rw [sealN_length]; omega), if_pos rfl]
theorem rans_few {bs : List Nat} (h : bs.length < 4) : rans bs = (5, []) := by unfold rans; rw [if_pos h]
theorem rans_sum {bs : List Nat} (h : 4 ≤ bs.length) (h2 : ¬ sealN (bs.take (bs.length - 4)) = bs) : rans bs = (6, []) := by unfold rans; rw [if_neg (by omega), if_neg h2]
theorem rans_good {bs : List Nat} (h256 : ∀ x ∈ bs, x < 256) (h : (rans bs).1 = 0) : sealN (ledN (rans bs).2) = bs ∧ (rans bs).2.length ≤ 4096 ∧ (∀ c ∈ (rans bs).2, chkB c = true) ∧ ∀ c ∈ (rans bs).2, c.Sized := by
  by_cases h4 : bs.length < 4
  · rw [rans_few h4] at h; cases h
  · by_cases hs : sealN (bs.take (bs.length - 4)) = bs
    · obtain ⟨xs, hx⟩ : ∃ xs, xs = bs.take (bs.length - 4) := ⟨_, rfl⟩
      rw [← hx] at hs
      have hx256 : ∀ x ∈ xs, x < 256 := fun x h => h256 x (by rw [hx] at h; exact List.mem_of_mem_take h)
      subst hs
      rw [rans_seal] at h ⊢
      cases hr : rdLed xs with
      | none => rw [hr] at h; cases h
      | some l =>
        obtain ⟨i1, i2⟩ := rdLed_inv hx256 hr
        exact ⟨by simp only; rw [i1], i2⟩
    · rw [rans_sum (by omega) hs] at h; cases h
theorem ReadPost.flat {bs : List Nat} {a2 a8 : Addr} {w w' : World} {e : Ending} (h : ReadPost bs a2 a8 w e w') :
    ∃ v, e = .returned (.tuple #[v, rerr a2 a8 (rans bs).1]) ∧ OwnLed w' w.heap.size w'.heap.size v (rans bs).2 ∧ Below w.heap.size w w' := by
  obtain ⟨hb, ⟨h1, rfl⟩ | ⟨h1, h2, rfl⟩ | ⟨xs, rfl, ⟨hx, rfl⟩ | ⟨l, v, hx, rfl, ho⟩⟩⟩ := h
  · rw [rans_few h1]; exact ⟨_, rfl, OwnLed.nil_ _ _ _, hb⟩
  · rw [rans_sum h1 h2]; exact ⟨_, rfl, OwnLed.nil_ _ _ _, hb⟩
  · rw [rans_seal, hx]; exact ⟨_, rfl, OwnLed.nil_ _ _ _, hb⟩
  · rw [rans_seal, hx]; exact ⟨_, rfl, ho, hb⟩
theorem RReadLPost.flat {bs : List Nat} {w w' : World} {e : Ending} (h : RReadLPost bs w e w') :
    ∃ v, e = .returned (.tuple #[v, .int .i64 ((rans bs).1 : Nat)]) ∧ OwnLed w' w.heap.size w'.heap.size v (rans bs).2 ∧ Below w.heap.size w w' := by
  obtain ⟨hb, ⟨h1, rfl⟩ | ⟨h1, h2, rfl⟩ | ⟨xs, rfl, ⟨hx, rfl⟩ | ⟨l, v, hx, rfl, ho⟩⟩⟩ := h
  · rw [rans_few h1]; exact ⟨_, rfl, OwnLed.nil_ _ _ _, hb⟩
  · rw [rans_sum h1 h2]; exact ⟨_, rfl, OwnLed.nil_ _ _ _, hb⟩
  · rw [rans_seal, hx]; exact ⟨_, rfl, OwnLed.nil_ _ _ _, hb⟩
  · rw [rans_seal, hx]; exact ⟨_, rfl, ho, hb⟩
end Go.Proofs.YtnlncfjibbdimaaDoor
namespace Go.Proofs.YtnlncfjibbdimaaDoor
open Go.ChangeShapes Go.WideShapes Go.ChangeAt Go.RowKit Go.Deep
set_option linter.unusedSimpArgs false
set_option linter.unusedVariables false
end Go.Proofs.YtnlncfjibbdimaaDoor

namespace Go.Proofs.YtnlncfjibbdimaaDoor
open Go.RowKit
set_option linter.unusedSimpArgs false
set_option linter.unusedVariables false
/-- A message. -/
structure Msg where
  kind : Int
  frm : Int
  to_ : Int
  tn : Int
  tb : Int
  ts : Int
  br : Int
  bn : Int
  ar : Int
  an : Int
  led : List Cmd
  xn : Int
  xb : Int
  xs : Int
  ok : Bool
  frame : List Nat
/-- A message's sixteen cells; lv: the slice of its ledger, fv: of its frame. -/
def Msg.cells (m : Msg) (lv fv : Value) : List Value :=
  [.int .i64 m.kind, .int .i64 m.frm, .int .i64 m.to_, .int .i64 m.tn, .int .i64 m.tb, .int .i64 m.ts, .int .i64 m.br, .int .i64 m.bn, .int .i64 m.ar, .int .i64 m.an, lv,
    .int .i64 m.xn, .int .i64 m.xb, .int .i64 m.xs, .bool m.ok, fv]
def zeroMsg : Msg := ⟨0, 0, 0, 0, 0, 0, 0, 0, 0, 0, [], 0, 0, 0, false, []⟩
/-- Which fields a kind may have: ballot, accepted, ledger, blob, ok, frame. -/
def mkF (n : Int) : List Bool :=
  if n = 1 then [true, false, false, false, false, false]
  else if n = 4 then [true, false, false, false, false, false]
  else if n = 2 then [true, true, true, false, false, false]
  else if n = 3 then [true, false, true, false, false, false]
  else if n = 5 then [true, true, false, false, false, false]
  else if n = 6 then [false, false, false, true, false, true]
  else if n = 7 then [false, false, false, true, true, false]
  else if n = 8 then [false, false, false, true, false, false]
  else if n = 9 then [false, false, false, true, true, true]
  else [false, false, false, false, false, false]
def mkOk (n : Int) : Bool := decide (1 ≤ n ∧ n ≤ 9)
theorem mkF_6 (n : Int) : ∃ a b c d e f, mkF n = [a, b, c, d, e, f] := by
  unfold mkF
  repeat (split; · exact ⟨_, _, _, _, _, _, rfl⟩)
  exact ⟨_, _, _, _, _, _, rfl⟩
def mf (n : Int) (i : Nat) : Bool := (mkF n).getD i false
def nodeB (n : Int) : Bool := decide (0 ≤ n ∧ n < 16)
def noB (r n : Int) : Bool := decide (r = 0) && decide (n = 0)
def goodLed (l : List Cmd) : Bool := l.all chkB && decide (l.length ≤ 4096)
/-- What Check asks first. -/
def fineM (m : Msg) : Bool :=
  mkOk m.kind && nodeB m.frm && nodeB m.to_ && gid m.tn m.tb m.ts && (mf m.kind 0 == !noB m.br m.bn) && (noB m.br m.bn || lg m.br m.bn) &&
  (mf m.kind 1 || noB m.ar m.an) && (noB m.ar m.an || lg m.ar m.an) && (mf m.kind 2 || decide (m.led.length = 0)) && goodLed m.led &&
  (mf m.kind 3 || eq3 m.xn m.xb m.xs 0 0 0) && gid m.xn m.xb m.xs && (mf m.kind 4 || !m.ok) && (mf m.kind 5 || decide (m.frame.length = 0)) && decide (m.frame.length ≤ 4096)
def oddM (m : Msg) : Bool :=
  (decide (m.kind = 2) && noB m.ar m.an && decide (0 < m.led.length)) || (decide (m.kind = 5) && noB m.ar m.an) || (decide (m.kind = 9) && !m.ok && decide (0 < m.frame.length))
/-- What Check asks. -/
def chkM (m : Msg) : Bool := fineM m && !oddM m
def Msg.nums (m : Msg) : List Int := [m.kind, m.frm, m.to_, m.tn, m.tb, m.ts, m.br, m.bn, m.ar, m.an, m.xn, m.xb, m.xs, if m.ok = true then 1 else 0]
def lpB (bs : List Nat) : List Nat := enc bs.length ++ bs
/-- A message's bytes ahead of their sum. -/
def msgN (m : Msg) : List Nat := m.nums.flatMap encI ++ lpB (sealN (ledN m.led)) ++ lpB m.frame
/-- A message's bytes. -/
def putM (m : Msg) : List Nat := sealN (msgN m)
def msgOf (ns : List Int) (l : List Cmd) (f : List Nat) : Msg :=
  ⟨ns.getD 0 0, ns.getD 1 0, ns.getD 2 0, ns.getD 3 0, ns.getD 4 0, ns.getD 5 0, ns.getD 6 0, ns.getD 7 0, ns.getD 8 0, ns.getD 9 0, l, ns.getD 10 0, ns.getD 11 0, ns.getD 12 0, decide (ns.getD 13 0 = 1), f⟩
/-- The message of bytes whose sum is taken off. -/
def pMsg (xs : List Nat) : Option Msg :=
  (pNums 14 xs).bind fun a => (pPiece a.2).bind fun b => (pBytes 4096 b.2).bind fun c =>
    if (rans b.1).1 = 0 ∧ c.2 = [] ∧ a.1.getD 13 0 ≤ 1 ∧ chkM (msgOf a.1 (rans b.1).2 c.1) = true then some (msgOf a.1 (rans b.1).2 c.1) else none
/-- What both Gets answer: the number of the error and the message. -/
def pans (bs : List Nat) : Nat × Msg :=
  if bs.length < 4 then (5, zeroMsg) else if sealN (bs.take (bs.length - 4)) = bs then
    match pMsg (bs.take (bs.length - 4)) with
    | none => (5, zeroMsg)
    | some m => (0, m)
  else (6, zeroMsg)
theorem lg_iff {r n : Int} : lg r n = true ↔ 1 ≤ r ∧ r ≤ 1099511627776 ∧ 0 ≤ n ∧ n < 16 := by unfold lg; simp
theorem noB_iff {r n : Int} : noB r n = true ↔ r = 0 ∧ n = 0 := by unfold noB; simp
theorem chkM_nums {m : Msg} (h : chkM m = true) : (∀ x ∈ m.nums, inG x) ∧ goodLed m.led = true ∧ m.frame.length ≤ 4096 := by
  unfold chkM fineM at h
  simp only [Bool.and_eq_true, decide_eq_true_eq, Bool.or_eq_true] at h
  obtain ⟨⟨⟨⟨⟨⟨⟨⟨⟨⟨⟨⟨⟨⟨⟨h0, h1⟩, h2⟩, h3⟩, h4⟩, h5⟩, h6⟩, h7⟩, h8⟩, h9⟩, h10⟩, h11⟩, h12⟩, h13⟩, h14⟩, h15⟩ := h
  have hb : inG m.br ∧ inG m.bn := by
    rcases h5 with h | h
    · obtain ⟨e1, e2⟩ := noB_iff.1 h; rw [e1, e2]; exact ⟨by unfold inG; omega, by unfold inG; omega⟩
    · obtain ⟨e1, e2, e3, e4⟩ := lg_iff.1 h; exact ⟨by unfold inG; omega, by unfold inG; omega⟩
  have ha : inG m.ar ∧ inG m.an := by
    rcases h7 with h | h
    · obtain ⟨e1, e2⟩ := noB_iff.1 h; rw [e1, e2]; exact ⟨by unfold inG; omega, by unfold inG; omega⟩
    · obtain ⟨e1, e2, e3, e4⟩ := lg_iff.1 h; exact ⟨by unfold inG; omega, by unfold inG; omega⟩
  have ht := gid_rng h3
  have hx := gid_rng h11
  unfold mkOk at h0
  unfold nodeB at h1 h2
  simp only [decide_eq_true_eq] at h0 h1 h2
  refine ⟨fun x hx' => ?_, h9, h14⟩
  simp only [Msg.nums, List.mem_cons, List.not_mem_nil, or_false] at hx'
  rcases hx' with rfl | rfl | rfl | rfl | rfl | rfl | rfl | rfl | rfl | rfl | rfl | rfl | rfl | rfl
  · unfold inG; omega
  · unfold inG; omega
  · unfold inG; omega
  · exact ht.1
  · exact ht.2.1
  · exact ht.2.2
  · exact hb.1
  · exact hb.2
  · exact ha.1
  · exact ha.2
  · exact hx.1
  · exact hx.2.1
  · exact hx.2.2
  · unfold inG; split <;> omega
theorem goodLed_iff {l : List Cmd} : goodLed l = true ↔ (∀ c ∈ l, chkB c = true) ∧ l.length ≤ 4096 := by
  unfold goodLed
  rw [Bool.and_eq_true, List.all_eq_true, decide_eq_true_eq]
theorem rans_led {l : List Cmd} (h : goodLed l = true) : rans (sealN (ledN l)) = (0, l) := by
  obtain ⟨h1, h2⟩ := goodLed_iff.1 h
  rw [rans_seal, rdLed_enc h1 h2]
theorem sealN_byte' {xs : List Nat} (h : ∀ x ∈ xs, x < 256) : ∀ x ∈ sealN xs, x < 256 := by
  intro x hx
  rcases List.mem_append.1 hx with hx | hx
  · exact h x hx
  · simp only [be4, List.mem_cons, List.not_mem_nil, or_false] at hx
    omega
theorem lpB_byte {xs : List Nat} (h : ∀ x ∈ xs, x < 256) : ∀ x ∈ lpB xs, x < 256 := by
  intro x hx
  rcases List.mem_append.1 hx with hx | hx
  · exact enc_byte _ x hx
  · exact h x hx
theorem msgN_byte {m : Msg} (hf : ∀ x ∈ m.frame, x < 256) : ∀ x ∈ msgN m, x < 256 := by
  intro x hx
  rcases List.mem_append.1 hx with hx | hx
  · rcases List.mem_append.1 hx with hx | hx
    · obtain ⟨z, _, hz⟩ := List.mem_flatMap.1 hx
      exact enc_byte _ x hz
    · exact lpB_byte (sealN_byte' (ledN_byte _)) x hx
  · exact lpB_byte hf x hx
theorem msgN_len {m : Msg} (h : chkM m = true) : (msgN m).length ≤ 8300000 := by
  obtain ⟨h1, h2, h3⟩ := chkM_nums h
  obtain ⟨h4, h5⟩ := goodLed_iff.1 h2
  have hl := ledN_len h4 h5
  have hn := flat_len m.nums h1
  have e1 := enc_len6 (n := (sealN (ledN m.led)).length) (by rw [sealN_length]; omega)
  have e2 := enc_len6 (n := m.frame.length) (by omega)
  have e3 : m.nums.length = 14 := rfl
  have e4 := sealN_length (ledN m.led)
  unfold msgN lpB
  simp only [List.length_append]
  omega
theorem msgOf_nums (m : Msg) : msgOf m.nums m.led m.frame = m := by
  obtain ⟨kind, frm, to_, tn, tb, ts, br, bn, ar, an, led, xn, xb, xs, ok, frame⟩ := m
  cases ok <;> rfl
theorem pBytes_enc {most : Nat} {one r : List Nat} (h : one.length < 9223372036854775808) (hm : one.length ≤ most) : pBytes most (lpB one ++ r) = some (one, r) := by
  unfold pBytes lpB
  rw [List.append_assoc, dec_enc _ _ h]
  simp only
  rw [if_pos ⟨hm, by rw [List.length_append]; omega⟩, List.take_left, List.drop_left]
/-- What is written is read back. -/
theorem pMsg_put {m : Msg} (h : chkM m = true) : pMsg (msgN m) = some m := by
  obtain ⟨h1, h2, h3⟩ := chkM_nums h
  obtain ⟨h4, h5⟩ := goodLed_iff.1 h2
  have hl := ledN_len h4 h5
  have e0 : pNums 14 (msgN m) = some (m.nums, lpB (sealN (ledN m.led)) ++ lpB m.frame) := by
    unfold msgN
    rw [List.append_assoc]
    exact pNums_enc h1
  have e1 : pPiece (lpB (sealN (ledN m.led)) ++ lpB m.frame) = some (sealN (ledN m.led), lpB m.frame) := pPiece_enc (by rw [sealN_length]; omega)
  have e2 : pBytes 4096 (lpB m.frame) = some (m.frame, []) := by
    have := pBytes_enc (most := 4096) (one := m.frame) (r := []) (by omega) h3
    rwa [List.append_nil] at this
  unfold pMsg
  rw [e0]
  simp only [Option.bind_some, e1, e2, rans_led h2, msgOf_nums]
  rw [if_pos]
  refine ⟨trivial, trivial, ?_, h⟩
  simp only [Msg.nums, List.getD_cons_succ, List.getD_cons_zero]
  split <;> omega
theorem list14 {α : Type} {l : List α} (h : l.length = 14) : ∃ a b c d e f g i j k m n o p, l = [a, b, c, d, e, f, g, i, j, k, m, n, o, p] := by
  match l, h with
  | [a, b, c, d, e, f, g, i, j, k, m, n, o, p], _ => exact ⟨a, b, c, d, e, f, g, i, j, k, m, n, o, p, rfl⟩
theorem pBytes_inv8 {most : Nat} {R r one : List Nat} (hR : ∀ x ∈ R, x < 256) (h : pBytes most R = some (one, r)) : R = lpB one ++ r ∧ one.length ≤ most ∧ (∀ x ∈ one, x < 256) ∧ ∀ x ∈ r, x < 256 := by
  obtain ⟨n, r', h1, h2, h3, rfl, rfl⟩ := pBytes_inv h
  have hr := dec_rest hR h1
  refine ⟨?_, by rw [List.length_take]; omega, fun x hx => hr x (List.mem_of_mem_take hx), fun x hx => hr x (List.mem_of_mem_drop hx)⟩
  unfold lpB
  rw [List.length_take, Nat.min_eq_left h3, List.append_assoc, List.take_append_drop]
  exact dec_inv hR h1
theorem pans_seal (xs : List Nat) : pans (sealN xs) = match pMsg xs with | none => (5, zeroMsg) | some m => (0, m) := by
  have e : (sealN xs).take ((sealN xs).length - 4) = xs := by
    rw [sealN_length, Nat.add_sub_cancel, sealN, List.take_left]
  unfold pans
  rw [e, if_neg (by rw [sealN_length]; omega), if_pos rfl]
theorem pans_put {m : Msg} (h : chkM m = true) : pans (putM m) = (0, m) := by
  unfold putM
  rw [pans_seal, pMsg_put h]
theorem pans_few {bs : List Nat} (h : bs.length < 4) : pans bs = (5, zeroMsg) := by unfold pans; rw [if_pos h]
theorem pans_sum {bs : List Nat} (h : 4 ≤ bs.length) (h2 : ¬ sealN (bs.take (bs.length - 4)) = bs) : pans bs = (6, zeroMsg) := by unfold pans; rw [if_neg (by omega), if_neg h2]
/-- Unlike messages have unlike bytes. -/
theorem putM_inj {a b : Msg} (ha : chkM a = true) (hb : chkM b = true) (h : putM a = putM b) : a = b := by
  have h1 := pans_put ha
  rw [h, pans_put hb] at h1
  injection h1 with _ h1
  exact h1.symm
end Go.Proofs.YtnlncfjibbdimaaDoor

namespace Go.Proofs.YtnlncfjibbdimaaDoor
open Go.RowKit
set_option linter.unusedSimpArgs false
set_option linter.unusedVariables false
def BoolPost (b : Bool) (w : World) (e : Ending) (w' : World) : Prop := e = .returned (.bool b) ∧ Below w.heap.size w w'
theorem BoolPost.of {b b' : Bool} {w w' : World} (h : b' = b) (hb : Below w.heap.size w w') : BoolPost b w (.returned (.bool b')) w' := ⟨by rw [h], hb⟩
set_option maxHeartbeats 400000 in
theorem node_any (n : Int) (w : World) : Calls Tryd.prog 141 #[.int .i64 n] w (BoolPost (nodeB n) w) := by
  by_cases h1 : 0 ≤ n
  · go_enter Tryd.func141, Tryd.ntmps141
    go_wp2
    go_ret
    exact BoolPost.of (by unfold nodeB; by_cases h2 : n < 16 <;> simp [h1, h2]) (Below.refl _ _)
  · go_enter Tryd.func141, Tryd.ntmps141
    go_wp2
    go_ret
    exact BoolPost.of (by unfold nodeB; simp [h1]; omega) (Below.refl _ _)
theorem stb23 : Tryd.prog.stoodInHeld 23 = false := by kernel_rfl
theorem fb23 : Tryd.prog.underlying 23 = some (.struct (Tryd.prog.fieldsOf 23)) := by unfold Program.fieldsOf; rw [Tryd.underlying23]
theorem eqb23 (a b a' b' : Int) (w : World) : (binOp .eql 23 (.agg #[.int .i64 a, .int .i64 b]) (.agg #[.int .i64 a', .int .i64 b'])).run Tryd.prog w = .ok (.bool (decide (a = a') && decide (b = b'))) w := by
  rw [run_eql_struct, show 10000 = 9999 + 1 from rfl, run_equalIn_struct w 9999 23 _ _ fb23 stb23]
  simp only [Program.fieldsOf, Tryd.underlying23]
  simp [Op.eqFields, go_sem, part]
  by_cases h1 : a = a' <;> by_cases h2 : b = b' <;> simp [h1, h2]
set_option maxHeartbeats 400000 in
theorem none_any (r n : Int) (w : World) : Calls Tryd.prog 142 #[.agg #[.int .i64 r, .int .i64 n]] w (BoolPost (noB r n) w) := by
  have hq := eqb23 r n 0 0
  have hb : Below w.heap.size w (w.alloc (.cells #[.int .i64 r, .int .i64 n] 23)) := (Below.refl _ _).alloc (Nat.le_refl _) _
  go_enter Tryd.func142, Tryd.ntmps142
  go_wp2
  go_ret
  exact BoolPost.of rfl hb
set_option maxHeartbeats 400000 in
theorem plegal_any (r n : Int) (w : World) : Calls Tryd.prog 143 #[.agg #[.int .i64 r, .int .i64 n]] w (BoolPost (lg r n) w) := by
  have hb : Below w.heap.size w (w.alloc (.cells #[.int .i64 r, .int .i64 n] 23)) := (Below.refl _ _).alloc (Nat.le_refl _) _
  have kn := fun w => node_any n w
  unfold BoolPost at kn
  by_cases h1 : 1 ≤ r
  · by_cases h2 : r ≤ 1099511627776
    · go_enter Tryd.func143, Tryd.ntmps143
      go_wp2_with (go_at_call 141; refine (kn _).mono ?_; rintro e w' ⟨rfl, b2⟩)
      go_ret
      exact BoolPost.of (by unfold lg nodeB; by_cases h3 : 0 ≤ n <;> by_cases h4 : n < 16 <;> simp [h1, h2, h3, h4]) (hb.trans (b2.mono hb.size))
    · go_enter Tryd.func143, Tryd.ntmps143
      go_wp2_with (fail)
      go_ret
      exact BoolPost.of (by unfold lg; simp [h1, h2]; omega) hb
  · go_enter Tryd.func143, Tryd.ntmps143
    go_wp2_with (fail)
    go_ret
    exact BoolPost.of (by unfold lg; simp [h1]; omega) hb
def MKindPost (n : Int) (w : World) (e : Ending) (w' : World) : Prop := e = .returned (.tuple #[.agg (bools (mkF n)), .bool (mkOk n)]) ∧ Below w.heap.size w w'
set_option maxHeartbeats 3200000 in
theorem mkind_any (n : Int) (w : World) : Calls Tryd.prog 140 #[.int .i64 n] w (MKindPost n w) := by
  by_cases h1 : n = 1
  · subst h1
    go_enter Tryd.func140, Tryd.ntmps140
    go_wp2
    exact bodyPost_ret (v := .tuple #[.agg #[.bool true, .bool false, .bool false, .bool false, .bool false, .bool false], .bool true]) (by simp [results, Tryd.results140, go_sem]) rfl ⟨by rfl, (Below.refl _ _).alloc (Nat.le_refl _) _⟩
  by_cases h2 : n = 2
  · subst h2
    go_enter Tryd.func140, Tryd.ntmps140
    go_wp2
    exact bodyPost_ret (v := .tuple #[.agg #[.bool true, .bool true, .bool true, .bool false, .bool false, .bool false], .bool true]) (by simp [results, Tryd.results140, go_sem]) rfl ⟨by rfl, (Below.refl _ _).alloc (Nat.le_refl _) _⟩
  by_cases h3 : n = 3
  · subst h3
    go_enter Tryd.func140, Tryd.ntmps140
    go_wp2
    exact bodyPost_ret (v := .tuple #[.agg #[.bool true, .bool false, .bool true, .bool false, .bool false, .bool false], .bool true]) (by simp [results, Tryd.results140, go_sem]) rfl ⟨by rfl, (Below.refl _ _).alloc (Nat.le_refl _) _⟩
  by_cases h4 : n = 4
  · subst h4
    go_enter Tryd.func140, Tryd.ntmps140
    go_wp2
    exact bodyPost_ret (v := .tuple #[.agg #[.bool true, .bool false, .bool false, .bool false, .bool false, .bool false], .bool true]) (by simp [results, Tryd.results140, go_sem]) rfl ⟨by rfl, (Below.refl _ _).alloc (Nat.le_refl _) _⟩
  by_cases h5 : n = 5
  · subst h5
    go_enter Tryd.func140, Tryd.ntmps140
    go_wp2
    exact bodyPost_ret (v := .tuple #[.agg #[.bool true, .bool true, .bool false, .bool false, .bool false, .bool false], .bool true]) (by simp [results, Tryd.results140, go_sem]) rfl ⟨by rfl, (Below.refl _ _).alloc (Nat.le_refl _) _⟩
  by_cases h6 : n = 6
  · subst h6
    go_enter Tryd.func140, Tryd.ntmps140
    go_wp2
    exact bodyPost_ret (v := .tuple #[.agg #[.bool false, .bool false, .bool false, .bool true, .bool false, .bool true], .bool true]) (by simp [results, Tryd.results140, go_sem]) rfl ⟨by rfl, (Below.refl _ _).alloc (Nat.le_refl _) _⟩
  by_cases h7 : n = 7
  · subst h7
    go_enter Tryd.func140, Tryd.ntmps140
    go_wp2
    exact bodyPost_ret (v := .tuple #[.agg #[.bool false, .bool false, .bool false, .bool true, .bool true, .bool false], .bool true]) (by simp [results, Tryd.results140, go_sem]) rfl ⟨by rfl, (Below.refl _ _).alloc (Nat.le_refl _) _⟩
  by_cases h8 : n = 8
  · subst h8
    go_enter Tryd.func140, Tryd.ntmps140
    go_wp2
    exact bodyPost_ret (v := .tuple #[.agg #[.bool false, .bool false, .bool false, .bool true, .bool false, .bool false], .bool true]) (by simp [results, Tryd.results140, go_sem]) rfl ⟨by rfl, (Below.refl _ _).alloc (Nat.le_refl _) _⟩
  by_cases h9 : n = 9
  · subst h9
    go_enter Tryd.func140, Tryd.ntmps140
    go_wp2
    exact bodyPost_ret (v := .tuple #[.agg #[.bool false, .bool false, .bool false, .bool true, .bool true, .bool true], .bool true]) (by simp [results, Tryd.results140, go_sem]) rfl ⟨by rfl, (Below.refl _ _).alloc (Nat.le_refl _) _⟩
  have hk : mkOk n = false := by unfold mkOk; simp; omega
  have hf : mkF n = [false, false, false, false, false, false] := by simp [mkF, h1, h2, h3, h4, h5, h6, h7, h8, h9]
  unfold MKindPost
  rw [hk, hf]
  clear hk hf
  go_enter Tryd.func140, Tryd.ntmps140
  go_wp2
  exact bodyPost_ret (v := .tuple #[.agg #[.bool false, .bool false, .bool false, .bool false, .bool false, .bool false], .bool false]) (by simp [results, Tryd.results140, go_sem]) rfl ⟨by rfl, (Below.refl _ _).alloc (Nat.le_refl _) _⟩
set_option maxRecDepth 100000 in
set_option maxHeartbeats 1600000 in
theorem goodLed_any (w : World) (lo hi : Nat) (v : Value) (l : List Cmd) (h : LedAt w lo hi v l) (hhi : hi ≤ w.heap.size) (hz : ∀ c ∈ l, c.Sized) (a1 : Addr) (h1 : w.cell? ⟨1, 0, none⟩ = some (errv a1)) :
    Calls Tryd.prog 144 #[v] w (BoolPost (goodLed l) w) := by
  obtain ⟨A, cap, rfl, hl, hc, hb⟩ := h.form
  have h01 := World.block_lt_of_cell? w _ h1
  obtain ⟨n, hn⟩ : ∃ n, n = l.length := ⟨_, rfl⟩
  rw [← hn] at h hl hb ⊢
  have hm : n ≤ 9223372036854775807 := by simp only [maxLen] at hc; omega
  have HN := Lib.hid hn
  clear hn hl hc hb
  go_enter Tryd.func144, Tryd.ntmps144
  go_wp2
  go_loopw [7] (fun i wr => ∃ k : Nat, k ≤ n ∧ i = .int .i64 k ∧ Hid (∀ (j : Nat) (c : Cmd), j < k → l[j]? = some c → chkB c = true) ∧ Below w.heap.size w wr) (fun i _ => n - (intOf i).toNat)
  case atStart => exact ⟨0, Nat.zero_le _, rfl, Lib.hid (fun j c hj => absurd hj (by omega)), Below.refl _ _⟩
  case round =>
    obtain ⟨k, hk, rfl, hall, hbel⟩ := hrel
    by_cases hlt : k < n
    · have hk' : k < l.length := by rw [← HN.out]; exact hlt
      have hlk := List.getElem?_eq_getElem hk'
      obtain ⟨b, o, pv, rfl, hlo, hhi', hr0, hparts⟩ := h.range hlk
      obtain ⟨c, hc⟩ : ∃ c, c = l[k] := ⟨_, rfl⟩
      rw [← hc] at hr0 hparts hlk
      have hcm : c ∈ l := by rw [hc]; exact List.getElem_mem _
      have HLK := Lib.hid hlk
      clear hc hlk
      have hrange : wr.rangeAt b (o + k * 18) (c.cells pv) := rangeAt_fr hr0 (Fr.of_below hbel (fun _ => False)) (by omega) (fun h => h)
      have hone : (c.cells pv).toArray.all (·.oneCell') = true := intsAt_oneW hparts
      have hp2 := hparts.fr (Fr.of_below hbel (fun _ => False)) hhi (fun _ _ _ h => h)
      have h1r := (hbel.cell (p := ⟨1, 0, none⟩) h01).trans h1
      have hs := hbel.size
      clear hr0
      go_upto_region 4 with (first
        | ((with_reducible refine law_load 81 (.tmp 9) b (o + k * 18) (c.cells pv) ?_ hrange Tryd.underlying81 ?_ ?_ ?_); rfl; rfl; exact cmd_info)
        | ((with_reducible refine law_store_fresh 81 (.tmp 4) (.tmp 10) wr 81 _ (c.cells pv).toArray ?_ ?_ rfl ?_ ?_ hone ?_); rfl; rfl; exact cmd_info; rfl)
        | fail)
      refine wp_letter (fun W3 => Below wr.heap.size wr W3 ∧ Blk W3 wr.heap.size 81 (c.cells pv).toArray) ⟨(Below.refl _ _).alloc (Nat.le_refl _) _, Blk.new _ _ _⟩ ?_
      rintro W3 ⟨b3, hY⟩
      obtain ⟨y, hy⟩ : ∃ y, y = wr.heap.size := ⟨_, rfl⟩
      rw [← hy] at hY ⊢
      have hrY := hY.range
      have kc := check_any c (hz c hcm) W3 lo hi pv (hp2.fr (Fr.of_below b3 (fun _ => False)) (by omega) (fun _ _ _ h => h)) (by have := b3.size; omega) a1 ((b3.cell (p := ⟨1, 0, none⟩) (by simp only at h01 ⊢; omega)).trans h1r)
      have HB := Lib.hid (show Below w.heap.size w W3 from hbel.trans (b3.mono hs))
      cases hcb : chkB c with
      | true =>
        rw [hcb] at kc
        have HK := Lib.hid kc
        have HCB := Lib.hid hcb
        clear kc hy hY b3 hbel hrange hone hp2 h1r hparts hs hcb hcm
        go_wp2_with (first
          | ((with_reducible refine law_load 81 (.tmp 4) y 0 (c.cells pv) ?_ hrY Tryd.underlying81 ?_ ?_ ?_); rfl; rfl; exact cmd_info)
          | (go_at_call 43; refine HK.out.mono ?_; rintro e w4 ⟨rfl, b4⟩; have HB4 := Lib.hid (HB.out.trans (b4.mono HB.out.size)); clear b4)
          | fail)
        go_roundw
        case rel =>
          refine ⟨k + 1, by omega, by go_num, Lib.hid (fun j d hj hd => ?_), HB4.out⟩
          rcases Nat.lt_or_ge j k with hjk | hjk
          · exact hall j d hjk hd
          · obtain rfl : j = k := by omega
            rw [HLK.out] at hd
            injection hd with hd
            rw [← hd]
            exact HCB.out
        case measure => simp [intOf]; omega
      | false =>
        rw [hcb] at kc
        have HK := Lib.hid kc
        have HCB := Lib.hid (And.intro hcb hcm)
        clear kc hy hY b3 hbel hrange hone hp2 h1r hparts hs hcb hcm
        go_wp2_with (first
          | ((with_reducible refine law_load 81 (.tmp 4) y 0 (c.cells pv) ?_ hrY Tryd.underlying81 ?_ ?_ ?_); rfl; rfl; exact cmd_info)
          | (go_at_call 43; refine HK.out.mono ?_; rintro e w4 ⟨rfl, b4⟩; have HB4 := Lib.hid (HB.out.trans (b4.mono HB.out.size)); clear b4)
          | fail)
        go_ret
        refine BoolPost.of ?_ HB4.out
        unfold goodLed
        have : l.all chkB = false := by
          rw [Bool.eq_false_iff]
          intro ha
          rw [List.all_eq_true.1 ha c HCB.out.2] at HCB
          have := HCB.out.1
          cases this
        rw [this]
        rfl
    · have hkn : n = k := by omega
      subst hkn
      have HA : Hid (l.all chkB = true) := Lib.hid (by
        rw [List.all_eq_true]
        intro c hc
        obtain ⟨j, hj⟩ := List.getElem?_of_mem hc
        have hjl := (List.getElem?_eq_some_iff.1 hj).1
        exact hall j c (by rw [HN.out]; exact hjl) hj)
      clear hall
      go_wp2_with (fail)
      go_ret
      refine BoolPost.of ?_ hbel
      have hn := HN.out
      unfold goodLed
      rw [HA.out, ← hn]
      by_cases h4 : n ≤ 4096
      · simp [h4]; omega
      · simp [h4]; omega
end Go.Proofs.YtnlncfjibbdimaaDoor

namespace Go.Proofs.YtnlncfjibbdimaaDoor
open Go.RowKit
set_option linter.unusedSimpArgs false
set_option linter.unusedVariables false
section
variable {P : Program} {ops : Array Oper} {C : World → Prop}
/-- A quiet walk is cut: behind the first operations R holds of the frame. -/
theorem wpQuiet_cut {Q : Act → Prop} (R : Act → Prop) : ∀ (l1 l2 : List Oper) (a : Act), wpQuiet P ops C R l1 a → (∀ a', R a' → wpQuiet P ops C Q l2 a') → wpQuiet P ops C Q (l1 ++ l2) a
  | [], l2, a, h, k => k a h
  | o :: l1, l2, a, h, k => by
    rw [List.cons_append]
    unfold wpQuiet at h ⊢
    split at h
    · rename_i hw
      rw [if_pos hw]
      obtain ⟨v, h1, h2⟩ := h
      exact ⟨v, h1, wpQuiet_cut R l1 l2 _ h2 k⟩
    · rename_i hw
      rw [if_neg hw]
      exact wpQuiet_cut R l1 l2 _ h k
theorem wpQuiet_cutN {Q : Act → Prop} (n : Nat) (R : Act → Prop) (l : List Oper) (a : Act) (h : wpQuiet P ops C R (l.take n) a) (k : ∀ a', R a' → wpQuiet P ops C Q (l.drop n) a') : wpQuiet P ops C Q l a := by
  have := wpQuiet_cut R (l.take n) (l.drop n) a h k
  rwa [List.take_append_drop] at this
end
/-- A frame of 167 slots, written out. -/
theorem frame167 (a : Act) (hs : a.tmps.size = 167) (hd : a.defers = []) : ∃ φ : Nat → Value, a = { tmps := (φ 0 :: φ 1 :: φ 2 :: φ 3 :: φ 4 :: φ 5 :: φ 6 :: φ 7 :: φ 8 :: φ 9 :: φ 10 :: φ 11 :: φ 12 :: φ 13 :: φ 14 :: φ 15 :: φ 16 :: φ 17 :: φ 18 :: φ 19 :: φ 20 :: φ 21 :: φ 22 :: φ 23 :: φ 24 :: φ 25 :: φ 26 :: φ 27 :: φ 28 :: φ 29 :: φ 30 :: φ 31 :: φ 32 :: φ 33 :: φ 34 :: φ 35 :: φ 36 :: φ 37 :: φ 38 :: φ 39 :: φ 40 :: φ 41 :: φ 42 :: φ 43 :: φ 44 :: φ 45 :: φ 46 :: φ 47 :: φ 48 :: φ 49 :: φ 50 :: φ 51 :: φ 52 :: φ 53 :: φ 54 :: φ 55 :: φ 56 :: φ 57 :: φ 58 :: φ 59 :: φ 60 :: φ 61 :: φ 62 :: φ 63 :: φ 64 :: φ 65 :: φ 66 :: φ 67 :: φ 68 :: φ 69 :: φ 70 :: φ 71 :: φ 72 :: φ 73 :: φ 74 :: φ 75 :: φ 76 :: φ 77 :: φ 78 :: φ 79 :: φ 80 :: φ 81 :: φ 82 :: φ 83 :: φ 84 :: φ 85 :: φ 86 :: φ 87 :: φ 88 :: φ 89 :: φ 90 :: φ 91 :: φ 92 :: φ 93 :: φ 94 :: φ 95 :: φ 96 :: φ 97 :: φ 98 :: φ 99 :: φ 100 :: φ 101 :: φ 102 :: φ 103 :: φ 104 :: φ 105 :: φ 106 :: φ 107 :: φ 108 :: φ 109 :: φ 110 :: φ 111 :: φ 112 :: φ 113 :: φ 114 :: φ 115 :: φ 116 :: φ 117 :: φ 118 :: φ 119 :: φ 120 :: φ 121 :: φ 122 :: φ 123 :: φ 124 :: φ 125 :: φ 126 :: φ 127 :: φ 128 :: φ 129 :: φ 130 :: φ 131 :: φ 132 :: φ 133 :: φ 134 :: φ 135 :: φ 136 :: φ 137 :: φ 138 :: φ 139 :: φ 140 :: φ 141 :: φ 142 :: φ 143 :: φ 144 :: φ 145 :: φ 146 :: φ 147 :: φ 148 :: φ 149 :: φ 150 :: φ 151 :: φ 152 :: φ 153 :: φ 154 :: φ 155 :: φ 156 :: φ 157 :: φ 158 :: φ 159 :: φ 160 :: φ 161 :: φ 162 :: φ 163 :: φ 164 :: φ 165 :: φ 166 :: []).toArray, defers := [] } ∧ ∀ i, a.tmps.getD i undef = φ i := by
  obtain ⟨t, d⟩ := a
  simp only at hs hd
  subst hd
  refine ⟨fun i => t.getD i undef, ?_, fun i => rfl⟩
  have e : t = ((List.range 167).map fun i => t.getD i undef).toArray := by
    apply Array.ext
    · simp [hs]
    · intro i h1 h2
      simp [h1]
  have e2 : ((List.range 167).map fun i => t.getD i undef).toArray = (t.getD 0 undef :: t.getD 1 undef :: t.getD 2 undef :: t.getD 3 undef :: t.getD 4 undef :: t.getD 5 undef :: t.getD 6 undef :: t.getD 7 undef :: t.getD 8 undef :: t.getD 9 undef :: t.getD 10 undef :: t.getD 11 undef :: t.getD 12 undef :: t.getD 13 undef :: t.getD 14 undef :: t.getD 15 undef :: t.getD 16 undef :: t.getD 17 undef :: t.getD 18 undef :: t.getD 19 undef :: t.getD 20 undef :: t.getD 21 undef :: t.getD 22 undef :: t.getD 23 undef :: t.getD 24 undef :: t.getD 25 undef :: t.getD 26 undef :: t.getD 27 undef :: t.getD 28 undef :: t.getD 29 undef :: t.getD 30 undef :: t.getD 31 undef :: t.getD 32 undef :: t.getD 33 undef :: t.getD 34 undef :: t.getD 35 undef :: t.getD 36 undef :: t.getD 37 undef :: t.getD 38 undef :: t.getD 39 undef :: t.getD 40 undef :: t.getD 41 undef :: t.getD 42 undef :: t.getD 43 undef :: t.getD 44 undef :: t.getD 45 undef :: t.getD 46 undef :: t.getD 47 undef :: t.getD 48 undef :: t.getD 49 undef :: t.getD 50 undef :: t.getD 51 undef :: t.getD 52 undef :: t.getD 53 undef :: t.getD 54 undef :: t.getD 55 undef :: t.getD 56 undef :: t.getD 57 undef :: t.getD 58 undef :: t.getD 59 undef :: t.getD 60 undef :: t.getD 61 undef :: t.getD 62 undef :: t.getD 63 undef :: t.getD 64 undef :: t.getD 65 undef :: t.getD 66 undef :: t.getD 67 undef :: t.getD 68 undef :: t.getD 69 undef :: t.getD 70 undef :: t.getD 71 undef :: t.getD 72 undef :: t.getD 73 undef :: t.getD 74 undef :: t.getD 75 undef :: t.getD 76 undef :: t.getD 77 undef :: t.getD 78 undef :: t.getD 79 undef :: t.getD 80 undef :: t.getD 81 undef :: t.getD 82 undef :: t.getD 83 undef :: t.getD 84 undef :: t.getD 85 undef :: t.getD 86 undef :: t.getD 87 undef :: t.getD 88 undef :: t.getD 89 undef :: t.getD 90 undef :: t.getD 91 undef :: t.getD 92 undef :: t.getD 93 undef :: t.getD 94 undef :: t.getD 95 undef :: t.getD 96 undef :: t.getD 97 undef :: t.getD 98 undef :: t.getD 99 undef :: t.getD 100 undef :: t.getD 101 undef :: t.getD 102 undef :: t.getD 103 undef :: t.getD 104 undef :: t.getD 105 undef :: t.getD 106 undef :: t.getD 107 undef :: t.getD 108 undef :: t.getD 109 undef :: t.getD 110 undef :: t.getD 111 undef :: t.getD 112 undef :: t.getD 113 undef :: t.getD 114 undef :: t.getD 115 undef :: t.getD 116 undef :: t.getD 117 undef :: t.getD 118 undef :: t.getD 119 undef :: t.getD 120 undef :: t.getD 121 undef :: t.getD 122 undef :: t.getD 123 undef :: t.getD 124 undef :: t.getD 125 undef :: t.getD 126 undef :: t.getD 127 undef :: t.getD 128 undef :: t.getD 129 undef :: t.getD 130 undef :: t.getD 131 undef :: t.getD 132 undef :: t.getD 133 undef :: t.getD 134 undef :: t.getD 135 undef :: t.getD 136 undef :: t.getD 137 undef :: t.getD 138 undef :: t.getD 139 undef :: t.getD 140 undef :: t.getD 141 undef :: t.getD 142 undef :: t.getD 143 undef :: t.getD 144 undef :: t.getD 145 undef :: t.getD 146 undef :: t.getD 147 undef :: t.getD 148 undef :: t.getD 149 undef :: t.getD 150 undef :: t.getD 151 undef :: t.getD 152 undef :: t.getD 153 undef :: t.getD 154 undef :: t.getD 155 undef :: t.getD 156 undef :: t.getD 157 undef :: t.getD 158 undef :: t.getD 159 undef :: t.getD 160 undef :: t.getD 161 undef :: t.getD 162 undef :: t.getD 163 undef :: t.getD 164 undef :: t.getD 165 undef :: t.getD 166 undef :: []).toArray := rfl
  rw [← e2, ← e]
end Go.Proofs.YtnlncfjibbdimaaDoor
