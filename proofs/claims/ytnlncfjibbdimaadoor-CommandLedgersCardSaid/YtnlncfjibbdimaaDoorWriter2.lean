/-
  The walks of wire.Writer's Text of nothing, putId, NewWriter, Done.
-/
import Derived.Test.YtnlncfjibbdimaaDoorWriter
import Derived.Test.YtnlncfjibbdimaaDoorSpoil
namespace Go.Proofs.YtnlncfjibbdimaaDoor
open Go.RowKit
set_option linter.unusedSimpArgs false
set_option linter.unusedVariables false

theorem WAt.fr {w w' : World} {lo g : Nat} {bs : List Nat} {B : Nat} {S : Nat → Prop} (h : WAt w lo g bs) (f : Fr B S w w') (hB : w.heap.size ≤ B) (hS : ∀ k, lo ≤ k → k < w.heap.size → ¬ S k) : WAt w' lo g bs := by
  obtain ⟨h1, h2, A, c, h3, h4⟩ := h
  have hg := h3.lt
  exact ⟨h1, h2, A, c, h3.fr f (by omega) (hS g h1 hg), (OwnRow.fr (lo := lo) (hi := w.heap.size) ⟨h4, fun k hk => (h4.lt k hk).2⟩ f hB hS).1⟩
theorem WAt.below {w w' : World} {lo g : Nat} {bs : List Nat} {B : Nat} (h : WAt w lo g bs) (f : Below B w w') (hB : w.heap.size ≤ B) : WAt w' lo g bs := h.fr (Fr.of_below f (fun _ => False)) hB (fun _ _ _ h => h)

theorem run_append_str_nil (A : Option Addr) (n c : Nat) (hn : n ≤ c) (hA : A = none → n = 0) (w : World) : (Builtin.append_ #[84, 9] 84 #[.slice A n c, .string ⟨#[]⟩]).run Tryd.prog w = .ok (.slice A n c) w := by
  obtain ⟨i0, hi0, hz0, hz1, hz2⟩ := info_parts8 u8_info
  have h0 : (⟨#[]⟩ : ByteArray).size = 0 := rfl
  cases A with
  | none =>
    obtain rfl := hA rfl
    simp [Builtin.append_, run_underlying Tryd.underlying84, run_underlying Tryd.underlying9, sizeOf, typeInfo, hi0, Builtin.lenOf, Builtin.firstCells]
    rw [h0, if_pos (Nat.zero_le _)]
  | some a =>
    simp [Builtin.append_, run_underlying Tryd.underlying84, run_underlying Tryd.underlying9, sizeOf, typeInfo, hi0, Builtin.lenOf, Builtin.firstCells, hn, storeCells]
    rw [h0, Nat.add_zero, if_pos hn]

theorem wpList_append_str_nil {w : World} {ops : Array Oper} {rest : List Oper} {o : Oper} {a : Act} {Q : Exit → Act → World → Prop} (hgd : o.guard = none) (s x : Operand)
    (ho : o.op = .call { callee := .builtin .append, args := #[s, x], argTypes := #[84, 9] }) (hty : o.type = 84) (A : Option Addr) (n c : Nat) (hn : n ≤ c) (hA : A = none → n = 0)
    (hs : a.eval s = .slice A n c) (hx : a.eval x = .string ⟨#[]⟩) (h : wpList Tryd.prog ops Q rest (a.put o.dst (.slice A n c)) w) : wpList Tryd.prog ops Q (o :: rest) a w :=
  wpList_plain hgd fun _ hK => by
    have hrun := run_append_str_nil A n c hn hA w
    rw [← hty] at hrun
    unfold Oper.wp execOp
    simp only [ho, resolve, invoke, builtin, Sem.run_bind, Sem.run_pure, Result.andThen_ok, List.map_toArray, List.map_cons, List.map_nil, hs, hx]
    rw [hty] at hrun ⊢
    simp only [hrun, Result.andThen_ok]
    exact hK _ _ h

theorem WAt.open_ {w : World} {lo g : Nat} {bs : List Nat} (h : WAt w lo g bs) : ∃ A c, Blk w g 227 #[.slice A bs.length c, .bool false] ∧ w.ownsRow lo 5 1 (.slice A bs.length c) bs.length (u8s bs) ∧ bs.length ≤ c ∧ c ≤ maxLen ∧ (A = none → bs.length = 0) := by
  obtain ⟨_, _, A, c, h3, h4⟩ := h
  obtain ⟨A', c', hv, q1, q2, q3⟩ := OwnRow.form (w := w) (lo := lo) (hi := w.heap.size) ⟨h4, fun k hk => (h4.lt k hk).2⟩
  injection hv with e1 _ e2
  subst e1; subst e2
  exact ⟨A, c, h3, h4, q1, q2, fun h => (q3 h).1⟩

set_option maxRecDepth 100000 in
set_option maxHeartbeats 800000 in
theorem text_nil (w : World) (lo g : Nat) (bs : List Nat) (h : WAt w lo g bs) (hl : bs.length < 1099511627776) : Calls Tryd.prog 101 #[.pointer (some ⟨g, 0, none⟩), .string ⟨#[]⟩] w (NumW w lo g (bs ++ [0])) := by
  have h0 : (⟨#[]⟩ : ByteArray).size = 0 := rfl
  obtain ⟨m, hm⟩ : ∃ m, m = (bs ++ [0]).length := ⟨_, rfl⟩
  have hml : m ≤ 1099511627776 := by rw [hm]; simp; omega
  have HM := Lib.hid hm
  clear hm
  go_enter Tryd.func101, Tryd.ntmps101
  go_wp2_with (first
             | (at_builtin
                refine wpList_append_str_nil rfl (.tmp 12) (.tmp 13) rfl rfl A m c HC.out.1 HC.out.2 rfl rfl ?_)
             | (go_at_call 99
                refine (num_small w lo g 0 bs h hl (by omega)).mono ?_
                rintro e w1 ⟨rfl, h1, b1, f1⟩
                have hlo := h1.1
                obtain ⟨A, c, hB, hown, hc1, hc2, hA⟩ := h1.open_
                rw [← HM.out] at hB hown hc1 hA
                have HC := Lib.hid (And.intro hc1 hA)
                have cB := hB.cell
                have fB := hB.frozen
                have hg := hB.lt
                have hfin : WAt (w1.setCell ⟨g, 0, none⟩ (.slice A m c)) lo g (bs ++ [0]) := ⟨hlo, by rw [← HM.out]; exact hml, A, c, by rw [← HM.out]; simpa using hB.set_ 0 (.slice A m c), by have := ownsRow_far (i := 0) (u := .slice A m c) hown hB (by decide); rw [← HM.out]; exact this⟩
                have hbf : Below lo w (w1.setCell ⟨g, 0, none⟩ (.slice A m c)) := b1.setCell (p := ⟨g, 0, none⟩) hlo _
                have hfr : Fr w.heap.size (WS w g) w (w1.setCell ⟨g, 0, none⟩ (.slice A m c)) := f1.setCell (p := ⟨g, 0, none⟩) (.inl (.inl rfl)) _
                have HF := Lib.hid (And.intro hfin (And.intro hbf hfr))
                clear hfin hbf hfr hB hown hc1 hc2 hA b1 f1 h1))
  go_end0
  exact ⟨rfl, HF.out⟩

theorem NumW.trans {w w1 w2 : World} {lo g : Nat} {bs cs : List Nat} {e : Ending} (h : WAt w1 lo g bs ∧ Below lo w w1 ∧ Fr w.heap.size (WS w g) w w1) (k : NumW w1 lo g cs e w2) : NumW w lo g cs e w2 := by
  obtain ⟨_, b1, f1⟩ := h
  obtain ⟨he, h2, b2, f2⟩ := k
  refine ⟨he, h2, b1.trans b2, f1.step f2 f1.size (fun k hk hs => ?_)⟩
  rcases hs with rfl | ⟨cs, hcs⟩
  · exact .inl rfl
  · by_cases hkg : WS w g k
    · exact hkg
    · exact .inr ⟨cs, by have := f1.block k hk hkg; unfold Blk at hcs ⊢; rw [← this]; exact hcs⟩

set_option maxHeartbeats 800000 in
theorem putId_small (w : World) (lo g a b c : Nat) (bs : List Nat) (h : WAt w lo g bs) (hl : bs.length < 1099511627770) (ha : a ≤ 127) (hb : b ≤ 127) (hc : c ≤ 127) :
    Calls Tryd.prog 100 #[.pointer (some ⟨g, 0, none⟩), .agg #[.int .i64 a, .int .i64 b, .int .i64 c]] w (NumW w lo g (bs ++ [a, b, c])) := by
  have hlo := h.1
  have hls : lo ≤ w.heap.size := by
    obtain ⟨_, _, _, _, hB, _⟩ := h
    have := hB.lt
    omega
  have hX : Blk (w.alloc (.cells #[.int .i64 a, .int .i64 b, .int .i64 c] 74)) w.heap.size 74 #[.int .i64 a, .int .i64 b, .int .i64 c] := Blk.new w 74 _
  have h1 := h.below ((Below.refl _ _).alloc (Nat.le_refl _) (.cells #[.int .i64 a, .int .i64 b, .int .i64 c] 74)) (Nat.le_refl _)
  have hgl : g < w.heap.size := by
    obtain ⟨_, _, _, _, hB, _⟩ := h
    exact hB.lt
  obtain ⟨x, hx⟩ : ∃ x, x = w.heap.size := ⟨_, rfl⟩
  have hxg : x ≠ g := by omega
  have kept : ∀ (u v : World), Blk u x 74 #[.int .i64 a, .int .i64 b, .int .i64 c] → Fr u.heap.size (WS u g) u v → Blk v x 74 #[.int .i64 a, .int .i64 b, .int .i64 c] := fun u v hu f => hu.fr f hu.lt (fun hs => by
    rcases hs with hs | ⟨cs, hs⟩
    · exact hxg hs
    · exact hu.ne_type hs (by decide) rfl)
  have HK := Lib.hid kept
  clear kept
  go_enter Tryd.func100, Tryd.ntmps100
  go_upto_region 1 with (fail)
  refine wp_letter (fun W => WAt W lo g bs ∧ Below lo w W ∧ Fr w.heap.size (WS w g) w W ∧ Blk W w.heap.size 74 #[.int .i64 a, .int .i64 b, .int .i64 c]) ⟨h1, (Below.refl _ _).alloc hls _, (Fr.refl _ _ _).alloc (Nat.le_refl _) _, hX⟩ ?_
  rintro W ⟨hW, bW, fW, hXW⟩
  rw [← hx] at hXW ⊢
  clear hX h1 hx
  have cX := hXW.cell
  go_wp2_with (fail)
  refine (num_small W lo g a bs hW (by omega) ha).mono ?_
  rintro e w1 ⟨rfl, h1, b1, f1⟩
  have hX1 := HK.out _ _ hXW f1
  have N1 := NumW.trans (e := .returned (.tuple #[])) ⟨hW, bW, fW⟩ ⟨rfl, h1, b1, f1⟩
  clear cX b1 f1
  have cX := hX1.cell
  go_wp2_with (fail)
  refine (num_small w1 lo g b _ h1 (by simp; omega) hb).mono ?_
  rintro e w2 ⟨rfl, h2, b2, f2⟩
  have hX2 := HK.out _ _ hX1 f2
  have N2 := NumW.trans (e := .returned (.tuple #[])) N1.2 ⟨rfl, h2, b2, f2⟩
  clear cX b2 f2
  have cX := hX2.cell
  go_wp2_with (fail)
  refine (num_small w2 lo g c _ h2 (by simp; omega) hc).mono ?_
  rintro e w3 ⟨rfl, h3, b3, f3⟩
  have N3 := NumW.trans (e := .returned (.tuple #[])) N2.2 ⟨rfl, h3, b3, f3⟩
  go_wp2_with (fail)
  go_end0
  simpa using N3

end Go.Proofs.YtnlncfjibbdimaaDoor
