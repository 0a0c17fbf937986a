/-
  slices.Values at ints, and a round's Missing (begun as a worked proof of the kit, turned to this seat).
  Glue for a function that ranges over a round's Missing: steps inside a round by their equations, frames that the law's book-keeping leaves alone, the ways out. No walk stands here.
-/
import Derived.RangeFuncBox
import Derived.RangeFuncLeaves
import Derived.RangeFuncNested
import Derived.RangeFuncBound
import Derived.RangeFuncCalls
import Derived.Shelf.Abstract
import Derived.OwnWalkIn
import Derived.TacticsInMore
import Derived.LoopNIn
import Derived.LoopIn
import Derived.Test.YtnlncfjibbdimaaDoorN13
import Derived.RangeFuncWrites
import Derived.Test.YtnlncfjibbdimaaDoorAgA13
namespace Go.Proofs.YtnlncfjibbdimaaDoor
open Go.RowKit Go.Shelf
set_option linter.unusedSimpArgs false
set_option linter.unusedVariables false
attribute [local go_sem] Oper.semAt_some

/-- Block b is kept. -/
def Kb (b : Nat) (W W' : World) : Prop := W'.heap[b]? = W.heap[b]?
theorem Kb.tr {b : Nat} {A B C : World} (h : Kb b A B) (k : Kb b B C) : Kb b A C := k.trans h
theorem Kb.cell {b : Nat} {A B : World} (h : Kb b A B) (o k : Nat) : B.cell? ⟨b, o + k, none⟩ = A.cell? ⟨b, o + k, none⟩ := World.cell?_of_block (w := A) (show B.heap[(⟨b, o + k, none⟩ : Addr).block]? = A.heap[(⟨b, o + k, none⟩ : Addr).block]? from h)
theorem kb_b {b : Nat} {w : World} (hb : b < w.heap.size) (W : World) (l : Nat) (o o' : Obj) (hl : w.heap.size ≤ l) (_ : W.heap[l]? = some o) (_ : o.isCells = false) (_ : o.isWalk = false) : Kb b W (W.putObj l o') := World.putObj_heap_other (by omega)

def upto13 {α : Type} (f : Nat → α) (k : Nat) : List α := (List.range k).map f
theorem upto13_succ {α : Type} (f : Nat → α) (k : Nat) : upto13 f (k + 1) = upto13 f k ++ [f k] := by simp [upto13, List.range_succ]
theorem upto13_length {α : Type} (f : Nat → α) (k : Nat) : (upto13 f k).length = k := by simp [upto13]
theorem upto13_all (zs : List Int) : upto13 (fun j => zs[j]?.getD 0) zs.length = zs := by
  apply List.ext_getElem
  · simp [upto13]
  · intro i h1 h2
    simp [upto13, h2]

set_option maxRecDepth 100000 in
set_option maxHeartbeats 2000000 in
theorem vals1_in (F : Fence) (n : Nat) (h170 : F.fn 170) (hro : F.round = none) (hn : 1 ≤ n) (l Bs b off len cap : Nat) (zs : List Int) (hreach : len * 8 ≤ 140737488351232) (J Jx : List Int → World → Prop)
    (hY : ∀ pre x W, J pre W → pre.length < len → YieldAt F (n - 1) Tryd.prog l #[.int .i64 x] W fun e W' =>
      (e = .returned (.bool true) ∧ J (pre ++ [x]) W' ∧ Kb b W W') ∨ (e = .returned (.bool false) ∧ Jx (pre ++ [x]) W'))
    (W : World) (hBs : W.cell? ⟨Bs, 0, none⟩ = some (.slice (some ⟨b, off, none⟩) len cap)) (hc : ∀ j, j < len → W.cell? ⟨b, off + j, none⟩ = some (.int .i64 (zs[j]?.getD 0))) (h0 : J [] W) :
    CallsIn F n Tryd.prog 170 #[.func (.yield l) #[] #[], .pointer (some ⟨Bs, 0, none⟩)] W fun e W' => (∃ v, e = .returned v) ∧
      ((∃ ys, ys = upto13 (fun j => zs[j]?.getD 0) len ∧ J ys W') ∨ (∃ pre, (∃ k, k ≤ len ∧ pre = upto13 (fun j => zs[j]?.getD 0) k) ∧ Jx pre W')) := by
  refine callsIn_of_wp Tryd.func170 rfl h170 ?_ hro
  simp only [Tryd.ntmps170, List.size_toArray, List.length_cons, List.length_nil, Nat.reduceAdd, Nat.reduceSub, Array.replicate_succ, Array.replicate_zero, List.push_toArray, List.append_toArray, List.nil_append, List.cons_append]
  gi_wp2
  gi_loopw [7] (fun i wr => ∃ k : Nat, k ≤ len ∧ i = .int .i64 k ∧ J (upto13 (fun j => zs[j]?.getD 0) k) wr ∧ Kb b W wr)
    (fun i _ => len - (intOf i).toNat)
  case atStart => exact ⟨0, Nat.zero_le _, rfl, h0, rfl⟩
  case round =>
    obtain ⟨k, hk, rfl, hJs, hnx⟩ := hrel
    have hcx : k < len → wr.cell? ⟨b, off + k, none⟩ = some (.int .i64 (zs[k]?.getD 0)) := fun h => (hnx.cell off k).trans (hc k h)
    by_cases hlt : k < len
    · obtain ⟨fn, tmps, assign, body, hy, hR⟩ := hY _ (zs[k]?.getD 0) wr hJs (by rw [upto13_length]; exact hlt)
      have hcx' := hcx hlt
      gi_wp2
      refine hR.mono ?_
      rintro e W3 (⟨rfl, hJ3, hk3⟩ | ⟨rfl, hJx3⟩)
      · -- THE ROUND GOES ON
        gi_wp2
        go_roundw
        case rel => exact ⟨k + 1, by omega, by simp, by rw [upto13_succ]; exact hJ3, hnx.tr hk3⟩
        case measure => simp [intOf]; omega
      · gi_wp2
        refine bodyPost_ret (results_none rfl _ _ _) rfl ?_
        exact ⟨⟨_, rfl⟩, .inr ⟨_, ⟨k + 1, by omega, (upto13_succ _ _).symm⟩, hJx3⟩⟩
    · obtain rfl : k = len := by omega
      gi_wp2
      go_end0
      exact ⟨⟨_, rfl⟩, .inl ⟨_, rfl, hJs⟩⟩

theorem upto13_take (zs : List Int) {k : Nat} (hk : k ≤ zs.length) : upto13 (fun j => zs[j]?.getD 0) k = zs.take k := by
  apply List.ext_getElem
  · simp [upto13, hk]
  · intro i h1 h2
    have : i < zs.length := by simp [upto13] at h1; omega
    simp [upto13, this]

/-- The slice value sv holds the ints zs, in block b; or it is nil and there are none. -/
def IntsIn (b : Nat) (W : World) (sv : Value) (zs : List Int) : Prop :=
  (sv = .slice none 0 0 ∧ zs = []) ∨ ∃ cap, sv = .slice (some ⟨b, 0, none⟩) zs.length cap ∧ ∀ j, j < zs.length → W.cell? ⟨b, 0 + j, none⟩ = some (.int .i64 (zs[j]?.getD 0))
theorem IntsIn.kb {b : Nat} {A B : World} (h : Kb b A B) {sv : Value} {zs : List Int} : IntsIn b A sv zs → IntsIn b B sv zs
  | .inl e => .inl e
  | .inr ⟨cap, e, hc⟩ => .inr ⟨cap, e, fun j hj => (h.cell 0 j).trans (hc j hj)⟩

set_option maxRecDepth 100000 in
set_option maxHeartbeats 1000000 in
theorem valsN_in (F : Fence) (n : Nat) (h170 : F.fn 170) (hro : F.round = none) (l Bs : Nat) (J : List Int → World → Prop) (W : World) (hBs : W.cell? ⟨Bs, 0, none⟩ = some (.slice none 0 0)) (h0 : J [] W) :
    CallsIn F n Tryd.prog 170 #[.func (.yield l) #[] #[], .pointer (some ⟨Bs, 0, none⟩)] W fun e W' => (∃ v, e = .returned v) ∧ J [] W' := by
  refine callsIn_of_wp Tryd.func170 rfl h170 ?_ hro
  simp only [Tryd.ntmps170, List.size_toArray, List.length_cons, List.length_nil, Nat.reduceAdd, Nat.reduceSub, Array.replicate_succ, Array.replicate_zero, List.push_toArray, List.append_toArray, List.nil_append, List.cons_append]
  gi_wp2
  gi_loopw [7] (fun i wr => i = .int .i64 0 ∧ J [] wr) (fun _ _ => 0)
  case atStart => exact ⟨rfl, h0⟩
  case round =>
    obtain ⟨rfl, hJs⟩ := hrel
    gi_wp2
    go_end0
    exact ⟨⟨_, rfl⟩, hJs⟩

set_option maxHeartbeats 1000000 in
theorem vals_in (F : Fence) (n : Nat) (h158 : F.fn 158) (hro : F.round = none) (a : Option Addr) (len cap : Nat) (w : World) :
    CallsIn F n Tryd.prog 158 #[.slice a len cap] w fun e w' => e = .returned (.func (.func 170) #[] #[.pointer (some ⟨w.heap.size, 0, none⟩)]) ∧ w' = w.alloc (.cells #[.slice a len cap] 40) := by
  refine callsIn_of_wp Tryd.func158 rfl h158 ?_ hro
  simp only [Tryd.ntmps158, List.size_toArray, List.length_cons, List.length_nil, Nat.reduceAdd, Nat.reduceSub, Array.replicate_succ, Array.replicate_zero, List.push_toArray, List.append_toArray, List.nil_append, List.cons_append]
  gi_wp2
  go_ret
  exact ⟨rfl, rfl⟩

theorem vals_stops (F : Fence) (n : Nat) (h170 : F.fn 170) (hro : F.round = none) (hn : 1 ≤ n) (Bs b : Nat) (sv : Value) (zs : List Int) (hreach : zs.length * 8 ≤ 140737488351232) (w : World) (hBs : Bs < w.heap.size) (hb : b < w.heap.size)
    (hc : w.cell? ⟨Bs, 0, none⟩ = some sv) (hI : IntsIn b w sv zs) :
    SeqStopsK F n Tryd.prog 170 #[.pointer (some ⟨Bs, 0, none⟩)] (fun x : Int => #[Value.int .i64 x]) (Kb b) (fun ys => ys = zs) (fun pre => pre <+: zs) zs.length w := fun l J Jx W hW _ _ hY h0 => by
  have hc' := (hW.cell (p := ⟨Bs, 0, none⟩) hBs).trans hc
  rcases hI.kb (hW.block b hb) with ⟨rfl, rfl⟩ | ⟨cap, rfl, hcs⟩
  · exact (valsN_in F n h170 hro l Bs J W hc' h0).mono fun e W' ⟨he, hj⟩ => ⟨he, .inl ⟨_, rfl, hj⟩⟩
  · refine (vals1_in F n h170 hro hn l Bs b 0 zs.length cap zs hreach J Jx hY W hc' hcs h0).mono ?_
    rintro e W' ⟨he, ⟨ys, rfl, hj⟩ | ⟨pre, ⟨k, hk, rfl⟩, hj⟩⟩
    · exact ⟨he, .inl ⟨_, upto13_all zs, hj⟩⟩
    · exact ⟨he, .inr ⟨_, by rw [upto13_take zs hk]; exact List.take_prefix _ _, hj⟩⟩

/-! ### Missing -/

/-- Who has not answered, of the first k. -/
def missK (f : Nat → Bool) (k : Nat) : List Int := ((List.range k).filter (fun i => !f i)).map Int.ofNat
theorem missK_step (f : Nat → Bool) (k : Nat) : missK f (k + 1) = missK f k ++ (if f k = true then [] else [(k : Int)]) := by
  unfold missK
  rw [List.range_succ, List.filter_append, List.map_append]
  cases h : f k <;> simp [h]
theorem missK_len (f : Nat → Bool) (k : Nat) : (missK f k).length ≤ k := by
  unfold missK
  rw [List.length_map]
  exact Nat.le_trans (List.length_filter_le _ _) (by simp)
def missL (stage : Int) (f : Nat → Bool) (n : Nat) : List Int := if stage = 1 ∨ stage = 2 then missK f n else []
theorem missL_skip {s : Int} {f : Nat → Bool} {k : Nat} (h : f k = true) : missL s f (k + 1) = missL s f k := by
  unfold missL
  rw [missK_step, h]
  simp
theorem missL_none {s : Int} {f : Nat → Bool} {k : Nat} (h : ¬ (s = 1 ∨ s = 2)) : missL s f k = [] := by
  unfold missL
  rw [if_neg h]
theorem missL_add {s : Int} {f : Nat → Bool} {k : Nat} (hs : s = 1 ∨ s = 2) (h : f k = false) : missL s f (k + 1) = missL s f k ++ [(k : Int)] := by
  unfold missL
  rw [if_pos hs, if_pos hs, missK_step, h]
  simp
theorem missL_len (s : Int) (f : Nat → Bool) (k : Nat) : (missL s f k).length ≤ k := by
  unfold missL
  split
  · exact missK_len f k
  · simp
/-- What Missing answers. -/
def MissPost (zs : List Int) (w : World) (e : Ending) (w' : World) : Prop :=
  ∃ Bs b sv, e = .returned (.func (.func 170) #[] #[.pointer (some ⟨Bs, 0, none⟩)]) ∧ w.heap.size ≤ Bs ∧ Bs < w'.heap.size ∧ w.heap.size ≤ b ∧ b < w'.heap.size ∧ w'.cell? ⟨Bs, 0, none⟩ = some sv ∧ IntsIn b w' sv zs ∧ Below w.heap.size w w'

set_option maxHeartbeats 400000 in
theorem values158 (w : World) (A : Option Addr) (n c : Nat) : Calls Tryd.prog 158 #[.slice A n c] w fun e w' => e = .returned (.func (.func 170) #[] #[.pointer (some ⟨w.heap.size, 0, none⟩)]) ∧ w' = w.alloc (.cells #[.slice A n c] 40) := by
  have hmf : ∀ (fn : Fn) (first cap : Array Value) (w : World), (Instr.makeFunc fn first cap).run Tryd.prog w = .ok (.func fn first cap) w := fun _ _ _ _ => rfl
  go_enter Tryd.func158, Tryd.ntmps158
  go_wp2_with (fail)
  go_ret
  exact ⟨rfl, rfl⟩

/-- Behind the loop. -/
theorem MissPost.of {w w1 : World} {zs : List Int} {A : Option Addr} {n c : Nat} (b : Below w.heap.size w w1) (h : OwnRow w1 w.heap.size w1.heap.size 3 1 (.slice A n c) zs.length (ints zs)) (hn : n = zs.length) :
    MissPost zs w (.returned (.func (.func 170) #[] #[.pointer (some ⟨w1.heap.size, 0, none⟩)])) (w1.alloc (.cells #[.slice A n c] 40)) := by
  have hc : (w1.alloc (.cells #[.slice A n c] 40)).cell? ⟨w1.heap.size, 0, none⟩ = some (.slice A n c) := (Blk.new w1 40 #[.slice A n c]).cell 0
  have hs := b.size
  have hb := b.alloc b.size (.cells #[.slice A n c] 40)
  rcases h.1.2 with ⟨hv, h0⟩ | ⟨g, cap, cur, hv, hb0, hh, h1, h2, h3, h4⟩
  · have hz : zs = [] := List.eq_nil_of_length_eq_zero h0
    exact ⟨w1.heap.size, w1.heap.size, _, rfl, hs, by simp, hs, by simp, hc, .inl ⟨hv, hz⟩, hb⟩
  · have hgl : g < w1.heap.size := h.2 g (by rw [hv]; rfl)
    injection hv with e1 e2 e3
    subst e1 e3
    refine ⟨w1.heap.size, g, _, rfl, hs, by simp, hb0, by simp; omega, hc, .inr ⟨_, by rw [hn], fun j hj => ?_⟩, hb⟩
    have hB : Blk w1 g 3 cur := hh
    have hB2 := hB.alloc (.cells #[.slice (some ⟨g, 0, none⟩) n c] 40)
    rw [Nat.zero_add, hB2.cell j]
    have e := congrArg (fun l => l[j]?) h4
    simp only [List.getElem?_take, ints_getElem?] at e
    rw [if_pos (by omega)] at e
    rw [← Array.getElem?_toList, e, List.getElem?_eq_getElem hj]
    rfl

set_option maxRecDepth 100000 in
set_option maxHeartbeats 1600000 in
theorem missing_any (w : World) (B g ga n : Nat) (f : Nat → Bool) (r : Rnd) (pv lv : Value) (h : RndAt w B g ga n f r pv lv) : Calls Tryd.prog 129 #[.pointer (some ⟨g, 0, none⟩)] w (MissPost (missL r.stage f n) w) := by
  have hn := h.sz
  have H0 := Lib.hid h
  have c0 : w.cell? ⟨g, 0, none⟩ = some (.slice (some ⟨ga, 0, none⟩) n n) := h.row.cell 0
  obtain ⟨i0, hi0, hz0, hz1, hz2⟩ := info_parts int_info
  clear h
  go_enter Tryd.func129, Tryd.ntmps129
  go_wp2_with (fail)
  go_loopw [3, 11] (fun sv i wr => ∃ (k m : Nat) (A : Option Addr) (c : Nat), k ≤ n ∧ i = .int .i64 k ∧ sv = .slice A m c ∧ Hid (m = (missL r.stage f k).length ∧ OwnRow wr w.heap.size wr.heap.size 3 1 (.slice A m c) (missL r.stage f k).length (ints (missL r.stage f k)) ∧ Below w.heap.size w wr)) (fun _ i _ => n - (intOf i).toNat)
  case atStart =>
    have e : missL r.stage f 0 = [] := by unfold missL missK; simp
    exact ⟨0, 0, none, 0, Nat.zero_le _, rfl, rfl, Lib.hid ⟨by rw [e]; rfl, by rw [e]; exact ⟨World.ownsRow_nil _ _ _ _, fun g hg => by simp [Value.ownBlock] at hg⟩, Below.refl _ _⟩⟩
  case round =>
    obtain ⟨k, m, A, c, hk, rfl, rfl, HR⟩ := hrel
    by_cases hlt : (k : Int) < n
    · have hR := H0.out.below HR.out.2.2 (Nat.le_refl _)
      have c22 : wr.cell? ⟨g, 22, none⟩ = some (.int .i64 r.stage) := hR.row.cell 22
      have ck : wr.cell? ⟨ga, k, none⟩ = some (.bool (f k)) := by rw [hR.ans.cell k, bls_get (by omega)]
      have hst := missK_step f k
      have HS := Lib.hid hst
      clear hR hst
      cases hfk : f k with
      | true =>
        rw [hfk] at ck
        have HF := Lib.hid hfk
        clear hfk
        go_wp2_with (fail)
        go_roundw
        case rel => exact ⟨k + 1, m, A, c, by omega, by go_num, rfl, Lib.hid (by rw [missL_skip HF.out]; exact HR.out)⟩
        case measure => simp [intOf]; omega
      | false =>
        rw [hfk] at ck
        have HF := Lib.hid hfk
        clear hfk
        by_cases h1 : r.stage = 1
        · rw [h1] at c22
          have HS1 := Lib.hid h1
          clear h1
          have hs12 : Hid (r.stage = 1 ∨ r.stage = 2) := Lib.hid (.inl HS1.out)
          clear HS1
          go_wp2_with (first
            | (at_builtin
               refine wpList_append_any _ rfl (.tmp 32) (.tmp 34) 40 rfl w.heap.size 3 i0 _ 1 8 Tryd.underlying40 hi0 hz0 hz1 hz2 rfl (by omega) (.slice A m c) (missL r.stage f k).length (ints (missL r.stage f k)) rfl ?_ 0 (wr.heap.size + 1) (some ⟨wr.heap.size, 0, none⟩) 1 1 [.int .i64 k] rfl ?_ (by simp [Value.oneCell']) ?_ (by have := missL_len r.stage f k; omega) (by have := HR.out.2.2.size; simp; omega) ?_
               rotate_right
               intro v1 w1 hown1 hg1 hat1
               obtain ⟨A1, c1, hv1, _⟩ := (show OwnRow w1 w.heap.size w1.heap.size 3 1 v1 ((missL r.stage f k).length + 1) (ints (missL r.stage f k) ++ [.int .i64 k]) from ⟨hown1, fun g hg => (hown1.lt g hg).2⟩).form
               subst hv1
               have HO := Lib.hid (And.intro hown1 hg1)
               clear hown1 hg1 hat1)
            | fail)
          · go_roundw
            case rel =>
              have e1 : missL r.stage f (k + 1) = missL r.stage f k ++ [(k : Int)] := missL_add hs12.out HF.out
              have e2 : (missL r.stage f k ++ [(k : Int)]).length = (missL r.stage f k).length + 1 := by simp
              have e3 : ints (missL r.stage f k ++ [(k : Int)]) = ints (missL r.stage f k) ++ [.int .i64 k] := by simp [ints]
              refine ⟨k + 1, (missL r.stage f k).length + 1, A1, c1, by omega, by go_num, rfl, Lib.hid ⟨by rw [e1, e2], by rw [e1, e2, e3]; exact ⟨HO.out.1, fun g hg => (HO.out.1.lt g hg).2⟩, ?_⟩⟩
              exact (HR.out.2.2.alloc HR.out.2.2.size _).grown HO.out.2 (by have := HR.out.2.2.size; simp; omega) (fun q hq => (HR.out.2.1.1.lt q hq).1)
            case measure => simp [intOf]; omega
          · exact (HR.out.2.1.fr (Fr.of_below ((Below.refl wr.heap.size wr).alloc (Nat.le_refl _) _) (fun _ => False)) (Nat.le_refl _) (fun _ _ _ h => h)).1
          · exact ⟨rfl, fun _ => ⟨_, rfl, Nat.zero_le _, Nat.lt_succ_self _, fun j u hu => by
              rw [Addr.add_mid]
              exact (Blk.new wr 3 #[.int .i64 k]).range (cs := [.int .i64 k]) j u hu⟩⟩
          · have := missL_len r.stage f k
            simp only [maxLen]
            omega
        · by_cases h2 : r.stage = 2
          · rw [h2] at c22
            have HS1 := Lib.hid h2
            clear h1 h2
            have hs12 : Hid (r.stage = 1 ∨ r.stage = 2) := Lib.hid (.inr HS1.out)
            clear HS1
            go_wp2_with (first
              | (at_builtin
                 refine wpList_append_any _ rfl (.tmp 32) (.tmp 34) 40 rfl w.heap.size 3 i0 _ 1 8 Tryd.underlying40 hi0 hz0 hz1 hz2 rfl (by omega) (.slice A m c) (missL r.stage f k).length (ints (missL r.stage f k)) rfl ?_ 0 (wr.heap.size + 1) (some ⟨wr.heap.size, 0, none⟩) 1 1 [.int .i64 k] rfl ?_ (by simp [Value.oneCell']) ?_ (by have := missL_len r.stage f k; omega) (by have := HR.out.2.2.size; simp; omega) ?_
                 rotate_right
                 intro v1 w1 hown1 hg1 hat1
                 obtain ⟨A1, c1, hv1, _⟩ := (show OwnRow w1 w.heap.size w1.heap.size 3 1 v1 ((missL r.stage f k).length + 1) (ints (missL r.stage f k) ++ [.int .i64 k]) from ⟨hown1, fun g hg => (hown1.lt g hg).2⟩).form
                 subst hv1
                 have HO := Lib.hid (And.intro hown1 hg1)
                 clear hown1 hg1 hat1)
              | fail)
            · go_roundw
              case rel =>
                have e1 : missL r.stage f (k + 1) = missL r.stage f k ++ [(k : Int)] := missL_add hs12.out HF.out
                have e2 : (missL r.stage f k ++ [(k : Int)]).length = (missL r.stage f k).length + 1 := by simp
                have e3 : ints (missL r.stage f k ++ [(k : Int)]) = ints (missL r.stage f k) ++ [.int .i64 k] := by simp [ints]
                refine ⟨k + 1, (missL r.stage f k).length + 1, A1, c1, by omega, by go_num, rfl, Lib.hid ⟨by rw [e1, e2], by rw [e1, e2, e3]; exact ⟨HO.out.1, fun g hg => (HO.out.1.lt g hg).2⟩, ?_⟩⟩
                exact (HR.out.2.2.alloc HR.out.2.2.size _).grown HO.out.2 (by have := HR.out.2.2.size; simp; omega) (fun q hq => (HR.out.2.1.1.lt q hq).1)
              case measure => simp [intOf]; omega
            · exact (HR.out.2.1.fr (Fr.of_below ((Below.refl wr.heap.size wr).alloc (Nat.le_refl _) _) (fun _ => False)) (Nat.le_refl _) (fun _ _ _ h => h)).1
            · exact ⟨rfl, fun _ => ⟨_, rfl, Nat.zero_le _, Nat.lt_succ_self _, fun j u hu => by
                rw [Addr.add_mid]
                exact (Blk.new wr 3 #[.int .i64 k]).range (cs := [.int .i64 k]) j u hu⟩⟩
            · have := missL_len r.stage f k
              simp only [maxLen]
              omega
          · have b1 : (r.stage == 1) = false := by simp [h1]
            have b2 : (r.stage == 2) = false := by simp [h2]
            go_wp2_with (fail)
            go_roundw
            case rel => exact ⟨k + 1, m, A, c, by omega, by go_num, rfl, Lib.hid (by rw [missL_none (k := k + 1) (by omega), ← missL_none (s := r.stage) (f := f) (k := k) (by omega)]; exact HR.out)⟩
            case measure => simp [intOf]; omega
    · obtain rfl : k = n := by omega
      go_wp2_with (first | (go_at_call 158; refine (values158 _ _ _ _).mono ?_; rintro e w2 ⟨rfl, rfl⟩) | fail)
      go_ret
      exact MissPost.of HR.out.2.2 HR.out.2.1 HR.out.1
set_option maxRecDepth 100000 in
set_option maxHeartbeats 400000 in
theorem ballot127 (w : World) (B g ga n : Nat) (f : Nat → Bool) (r : Rnd) (pv lv : Value) (h : RndAt w B g ga n f r pv lv) : Calls Tryd.prog 127 #[.pointer (some ⟨g, 0, none⟩)] w fun e w' => e = .returned (.agg #[.int .i64 r.br, .int .i64 r.bn]) ∧ Below w.heap.size w w' := by
  have bA : Below w.heap.size w (w.alloc (.cells #[.int .i64 0, .int .i64 0] 23)) := (Below.refl _ _).alloc (Nat.le_refl _) _
  have h' := h.below bA (Nat.le_refl _)
  have c20 : (w.alloc (.cells #[.int .i64 0, .int .i64 0] 23)).cell? ⟨g, 20, none⟩ = some (.int .i64 r.br) := h'.row.cell 20
  have c21 : (w.alloc (.cells #[.int .i64 0, .int .i64 0] 23)).cell? ⟨g, 21, none⟩ = some (.int .i64 r.bn) := h'.row.cell 21
  clear h h'
  go_enter Tryd.func127, Tryd.ntmps127
  go_wp2_with (fail)
  exact bodyPost_ret (v := .agg #[.int .i64 r.br, .int .i64 r.bn]) (by simp [results, Tryd.results127, go_sem]) rfl ⟨rfl, (Below.refl _ _).alloc (Nat.le_refl _) _⟩
set_option maxHeartbeats 400000 in
theorem begun128 (w : World) (B g ga n : Nat) (f : Nat → Bool) (r : Rnd) (pv lv : Value) (h : RndAt w B g ga n f r pv lv) : Calls Tryd.prog 128 #[.pointer (some ⟨g, 0, none⟩)] w fun e w' => e = .returned (.int .i64 r.begun) ∧ Below w.heap.size w w' := by
  have c : w.cell? ⟨g, 26, none⟩ = some (.int .i64 r.begun) := h.row.cell 26
  clear h
  go_enter Tryd.func128, Tryd.ntmps128
  go_wp2_with (fail)
  go_ret
  exact ⟨rfl, Below.refl _ _⟩
end Go.Proofs.YtnlncfjibbdimaaDoor

namespace Go.Proofs.YtnlncfjibbdimaaDoor
open Go.RowKit
set_option linter.unusedSimpArgs false
set_option linter.unusedVariables false

/-- Inside a round, or a fence: an operation whose equation is known. -/
theorem wpListIn_of_run {F : Fence} {n : Nat} {P : Program} {w : World} {ops : Array Oper} {rest : List Oper} {o : Oper} {a : Act} {Q : Exit → Act → World → Prop} (hg : o.guard = none) (hd : ∀ c, o.op ≠ .defer c) (ha : o.about P w a.eval = none)
    (v : Value) (w' : World) (hrun : (execOp a.eval o).run P w = .ok (.value v) w') (h : wpListIn F n P ops Q rest (a.put o.dst v) w') : wpListIn F n P ops Q (o :: rest) a w := by
  refine wpListIn_plain hg fun K hK => ?_
  unfold Oper.wpIn
  refine ⟨fun f hf => (by rw [ha] at hf; cases hf), ?_⟩
  rw [Oper.semAt_plain F _ _ hd, hrun]
  exact hK _ _ h

theorem wpListIn_append_any {F : Fence} {n0 : Nat} {P : Program} (w : World) {ops : Array Oper} {rest : List Oper} {o : Oper} {a : Act} {Q : Exit → Act → World → Prop} (hgd : o.guard = none) (s x : Operand) (t : TypeId)
    (ho : o.op = .call { callee := .builtin .append, args := #[s, x], argTypes := #[t, t] })
    (base : Nat) (e : TypeId) (i : TypeInfo) (z : Value) (size bytes : Nat) (ht : P.underlying t = some (.slice e)) (hi : P.info? e = some i) (hz : i.zero = some z)
    (hsize : i.size = size) (hby : i.bytes = bytes) (hzs : z.cells.size = size) (hsz : 0 < size)
    (v : Value) (n : Nat) (xs : List Value) (hs : a.eval s = v) (hown : w.ownsRow base e size v n xs)
    (lo hi' : Nat) (A : Option Addr) (m c : Nat) (news : List Value) (hx : a.eval x = .slice A m c) (hr : Rd w lo hi' size A m news) (h1 : ∀ u ∈ news, u.oneCell' = true)
    (h63 : n + m ≤ maxLen) (hbytes : (n + m) * bytes ≤ 140737488355328) (hbase : base ≤ w.heap.size)
    (h : ∀ v' w', w'.ownsRow base e size v' (n + m) (xs ++ news) → w.grownBy w' v.ownBlock → (v'.ownBlock = v.ownBlock ∨ v'.ownBlock = some w.heap.size) → wpListIn F n0 P ops Q rest (a.put o.dst v') w') : wpListIn F n0 P ops Q (o :: rest) a w := by
  refine wpListIn_plain hgd fun K hK' => ?_
  obtain ⟨v', w', hrun, r1, r2, r3⟩ := run_append_any (P := P) w base t o.type e i z size bytes ht hi hz hsize hby hzs hsz v n xs hown lo hi' A m c news hr h1 h63 hbytes hbase
  unfold Oper.wpIn
  refine ⟨?_, ?_⟩
  · simp [Oper.about, ho, resolve, Target.leads, Sem.run_pure]
  · rw [Oper.semAt_plain F _ _ (by rw [ho]; intro c hc'; cases hc')]
    simp [execOp, ho, resolve, invoke, builtin, hs, hx, hrun, Result.andThen]
    exact hK' _ _ (h v' w' r1 r2 r3)

/-- A box that holds a row: behind an append and the store back. b: a block that the iterator reads. -/
theorem Boxed.collected {W w1 : World} {n₀ B b : Nat} {t e : TypeId} {size : Nat} {v v' : Value} {k m : Nat} {xs ys : List Value} {tmp : Obj}
    (hv : Boxed W B t v) (hte : t ≠ e) (hrow : W.ownsRow n₀ e size v k xs) (hn₀ : n₀ ≤ W.heap.size) (hB : n₀ ≤ B)
    (hown' : w1.ownsRow n₀ e size v' m ys) (hgrow : (W.alloc tmp).grownBy w1 v.ownBlock) (hat : v'.ownBlock = v.ownBlock ∨ v'.ownBlock = some (W.alloc tmp).heap.size)
    (hb : b < W.heap.size) (hbB : b ≠ B) (hbv : ∀ q, v.ownBlock = some q → q ≠ b) :
    Boxed w1 B t v ∧ Boxed (w1.setCell ⟨B, 0, none⟩ v') B t v' ∧ (w1.setCell ⟨B, 0, none⟩ v').ownsRow n₀ e size v' m ys ∧ KeepsOthers W (w1.setCell ⟨B, 0, none⟩ v') ∧ Below n₀ W (w1.setCell ⟨B, 0, none⟩ v') ∧
      Kb b W (w1.setCell ⟨B, 0, none⟩ v') ∧ (∀ q, v'.ownBlock = some q → q ≠ b) := by
  obtain ⟨h1, h2, h3, h4, h5⟩ := hv.appended hte hrow hn₀ hB hown' hgrow
  refine ⟨h1, h2, h3, h4, h5, ?_, fun q hq => ?_⟩
  · have e1 : (w1.setCell ⟨B, 0, none⟩ v').heap[b]? = w1.heap[b]? := Below.heap_setCell _ _ _ b hbB
    have e2 : w1.heap[b]? = (W.alloc tmp).heap[b]? := hgrow.block b (by simp; omega) (fun e => hbv b e.symm rfl)
    have e3 : (W.alloc tmp).heap[b]? = W.heap[b]? := Below.heap_alloc W tmp b hb
    exact e1.trans (e2.trans e3)
  · rcases hat with e | e
    · exact hbv q (e ▸ hq)
    · rw [e] at hq; injection hq with hq; simp at hq; omega

theorem bodyM_ret {F : Fence} {n : Nat} {P : Program} {fn : Func} {R : Ending → World → Prop} {a : Act} {w : World} {v : Value} (hd : a.defers = []) (hr : (results fn a.tmps).run P w = .ok v w) (h : R (.returned v) w) : bodyPostM F n P fn R .ret a w := by
  show LeavesInM F n P fn a.tmps R a.defers .returning w
  rw [hd]
  exact ⟨v, hr, h⟩
theorem bodyM_norm {F : Fence} {n : Nat} {P : Program} {fn : Func} {R : Ending → World → Prop} {a : Act} {w : World} {v : Value} (hd : a.defers = []) (hr : (results fn a.tmps).run P w = .ok v w) (h : R (.returned v) w) : bodyPostM F n P fn R .normal a w := by
  show LeavesInM F n P fn a.tmps R a.defers .returning w
  rw [hd]
  exact ⟨v, hr, h⟩

section
variable {B N : Nat} {S : Nat → Prop} {w w' w0 : World}
theorem Below.keeps (h : Below w.heap.size w w') (B : Nat) : KeepsFrom B w w' := ⟨h.size, fun k o _ hk _ => (h.block k (Array.getElem?_eq_some_iff.1 hk).1).trans hk⟩
theorem Below.kb (h : Below w.heap.size w w') {b : Nat} (hb : b < w.heap.size) : Kb b w w' := h.block b hb
/-- A frame whose blocks lie ahead of the loop abides the law's book-keeping. -/
theorem ownFrom_fr {β : Type} (hN0 : N ≤ w0.heap.size) (hN : N ≤ B) : OwnFrom B (fun (_ : β) W => Fr N S w0 W) := fun _ X Y row hs hg hr =>
  ⟨hg.os.trans hs.os, hg.tape.trans hs.tape, hg.output.trans hs.output, Nat.le_trans hs.size hg.size, fun k hk hsk =>
    (hg.block k (by have := hs.size; omega) (fun e => by have := (hr k e.symm).1; omega)).trans (hs.block k hk hsk)⟩
/-- A box that holds a row of the call's own, apart from block b, abides the law's book-keeping. -/
theorem holds_own {β : Type} (n₀ Bx b : Nat) (t e : TypeId) (size : Nat) (k : β → Nat) (xs : β → List Value) : Own (fun s W => ∃ v, Boxed W Bx t v ∧ W.ownsRow n₀ e size v (k s) (xs s) ∧ ∀ q, v.ownBlock = some q → q ≠ b) :=
  holdsRow_own n₀ Bx t e size k xs (fun _ v => ∀ q, v.ownBlock = some q → q ≠ b)
/-- Behind the loop the block for the rounds' deferred calls is shut. -/
theorem shut_below {D : Nat} {o o' : Obj} (hB : w.heap.size ≤ N) (hD : N ≤ D) (hK : w'.heap[D]? = some o) (h : Below w.heap.size w w') : Below w.heap.size w (w'.putObj D o') :=
  h.grown (grownBy_putObj' w' D o') h.size (fun k e => by cases e; omega)
theorem shut_fr {D : Nat} {o o' : Obj} (hD : N ≤ D) (hK : w'.heap[D]? = some o) (h : Fr N S w w') : Fr N S w (w'.putObj D o') :=
  ⟨h.os, h.tape, h.output, by have := h.size; simpa [World.putObj] using this, fun k hk hs => (World.putObj_heap_other (by omega)).trans (h.block k hk hs)⟩
end
end Go.Proofs.YtnlncfjibbdimaaDoor
