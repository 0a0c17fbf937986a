/-
  RoundAgrees: a letter that tells is delivered to an acceptor (68).
  RoundAgrees: a letter that asks is delivered to an acceptor (68).
  RoundAgrees: an answer is delivered to a round (68): who took.
-/
import Derived.Test.YtnlncfjibbdimaaDoorAgE13
import Derived.Test.YtnlncfjibbdimaaDoorBegs13
import Derived.Deep.CutBlock
import Derived.Deep.DeepCutAuto
import Derived.TacticsInMore
import Derived.LoopNIn
import Derived.LoopIn
import Derived.RangeFuncBound
import Derived.RangeFuncCalls
namespace Go.Proofs.YtnlncfjibbdimaaDoor
open Go.RowKit
set_option linter.unusedSimpArgs false
set_option linter.unusedVariables false
attribute [local go_sem] Oper.semAt_some

section
variable {M : Nat → Prop} {w : World} {B n i j : Nat} {g gr ga : Nat → Nat} {s : Nat → Acc} {R : Nat → Rnd} {F : Nat → Nat → Bool} {pv lv : Nat → Value} {A : Nat → Addr} {Aa Ar : Option Addr} {led : List Cmd} {ov : Value} {br bn ar an : Int}
set_option maxRecDepth 100000 in
set_option maxHeartbeats 3200000 in
theorem deliver_take (ca cr : Nat) (D : DelIn M w B n g gr ga s R F pv lv A Aa Ar i j led ov) :
    Calls Tryd.prog 68 #[.slice Aa n ca, .slice Ar n cr, .agg ((⟨i, j, true, false, (br, bn), (ar, an), led⟩ : Let).cells ov).toArray] w (DelPost M B n g gr ga s R F pv ⟨i, j, true, false, (br, bn), (ar, an), led⟩ w) := by
  obtain ⟨A0, n0, c0, rfl⟩ := D.form
  obtain ⟨bR, oR, rfl, hbR, hMR, hcR⟩ := D.rs.at_ D.hi
  have hPi := hcR i D.hi
  have hi1 : (i : Int) < n := by have := D.hi; omega
  have hj1 : (j : Int) < n := by have := D.hj; omega
  have hnR : ¬ bR = w.heap.size := by omega
  have hnR2 : ¬ bR = w.heap.size + 1 := by omega
  simp only [Let.cells]
  refine callsIn_wide.1 (callsIn_of_wp_marks (n := 5) Tryd.func68 rfl trivial (wpIn_wide.2 ?_) rfl)
  simp only [Tryd.ntmps68, List.size_toArray, List.length_cons, List.length_nil, Nat.reduceAdd, Nat.reduceSub, Array.replicate_succ, Array.replicate_zero, List.push_toArray, List.append_toArray, List.nil_append, List.cons_append]
  have HD := Lib.hid D
  clear D hcR
  go_upto_region 2 with (fail)
  have bA : Below w.heap.size w ((w.alloc (.cells #[.int .i64 i, .int .i64 j, .bool true, .bool false, .int .i64 br, .int .i64 bn, .int .i64 ar, .int .i64 an, .slice A0 n0 c0] 131)).alloc (.cells #[.pointer (some ⟨gr i, 0, none⟩)] 97)) := ((Below.refl _ _).alloc (Nat.le_refl _) _).alloc (by simp) _
  refine wp_letter (fun W => DelIn M W B n g gr ga s R F pv lv A Aa (some ⟨bR, oR, none⟩) i j led (.slice A0 n0 c0) ∧ Blk W w.heap.size 131 #[.int .i64 i, .int .i64 j, .bool true, .bool false, .int .i64 br, .int .i64 bn, .int .i64 ar, .int .i64 an, .slice A0 n0 c0] ∧ Blk W (w.heap.size + 1) 97 #[.pointer (some ⟨gr i, 0, none⟩)] ∧ Below w.heap.size w W)
    ⟨HD.out.below bA, (Blk.new _ _ _).alloc _, by have := Blk.new (w.alloc (.cells #[.int .i64 i, .int .i64 j, .bool true, .bool false, .int .i64 br, .int .i64 bn, .int .i64 ar, .int .i64 an, .slice A0 n0 c0] 131)) 97 #[.pointer (some ⟨gr i, 0, none⟩)]; rwa [World.size_alloc] at this, bA⟩ ?_
  clear bA hPi hnR hnR2 hbR hMR hi1
  rintro W ⟨D1, X1, Y1, b1⟩
  obtain ⟨x, hx⟩ : ∃ x, x = w.heap.size := ⟨_, rfl⟩
  obtain ⟨y, hy⟩ : ∃ y, y = w.heap.size + 1 := ⟨_, rfl⟩
  rw [← hx] at X1
  rw [← hy] at Y1
  rw [← hy, ← hx]
  have cX := X1.cell
  have hrX : W.rangeAt x 0 [.int .i64 i, .int .i64 j, .bool true, .bool false, .int .i64 br, .int .i64 bn, .int .i64 ar, .int .i64 an, .slice A0 n0 c0] := X1.range
  have HP := Lib.hid (And.intro D1 (And.intro X1 (And.intro Y1 (And.intro b1 (And.intro hx hy)))))
  clear D1 X1 Y1 b1 hx hy
  go_upto_region 4 with (first
    | ((with_reducible refine law_load 131 (.tmp 5) x 0 [.int .i64 i, .int .i64 j, .bool true, .bool false, .int .i64 br, .int .i64 bn, .int .i64 ar, .int .i64 an, .slice A0 n0 c0] ?_ hrX Tryd.underlying131 ?_ ?_ ?_); rfl; rfl; exact let_info)
    | ((with_reducible refine law_store_fresh 131 (.tmp 8) (.tmp 22) W 131 _ #[.int .i64 i, .int .i64 j, .bool true, .bool false, .int .i64 br, .int .i64 bn, .int .i64 ar, .int .i64 an, .slice A0 n0 c0] ?_ ?_ rfl ?_ ?_ ?_ ?_); rfl; rfl; exact let_info; rfl; rfl)
    | fail)
  have bB : Below W.heap.size W (W.alloc (.cells #[.int .i64 i, .int .i64 j, .bool true, .bool false, .int .i64 br, .int .i64 bn, .int .i64 ar, .int .i64 an, .slice A0 n0 c0] 131)) := (Below.refl _ _).alloc (Nat.le_refl _) _
  refine wp_letter (fun W2 => Below W.heap.size W W2 ∧ Blk W2 W.heap.size 131 #[.int .i64 i, .int .i64 j, .bool true, .bool false, .int .i64 br, .int .i64 bn, .int .i64 ar, .int .i64 an, .slice A0 n0 c0]) ⟨bB, Blk.new _ _ _⟩ ?_
  clear bB hrX cX
  rintro W2 ⟨b2, Z2⟩
  obtain ⟨z, hz⟩ : ∃ z, z = W.heap.size := ⟨_, rfl⟩
  rw [← hz] at Z2
  rw [← hz]
  have cZ := Z2.cell
  have fZ := Z2.frozen
  have cX2 := (HP.out.2.1.below b2 HP.out.2.1.lt).cell
  have hxz : ¬ x = z := by have := HP.out.2.1.lt; omega
  have H2 := Lib.hid (And.intro b2 (And.intro Z2 hz))
  clear b2 Z2 hz
  go_upto_region 6 with (fail)
  have Z3 : Blk (W2.setCell ⟨z, 3, none⟩ (.bool true)) z 131 #[.int .i64 i, .int .i64 j, .bool true, .bool true, .int .i64 br, .int .i64 bn, .int .i64 ar, .int .i64 an, .slice A0 n0 c0] := H2.out.2.1.set_ 3 (.bool true)
  have F3 : Fr W.heap.size (fun _ => False) W (W2.setCell ⟨z, 3, none⟩ (.bool true)) := (Fr.of_below H2.out.1 _).trans ((Fr.refl _ (· = z) _).setCell (p := ⟨z, 3, none⟩) (.inl rfl) _ |>.mono H2.out.1.size (fun k h1 h2 => by have := H2.out.2.2; omega))
  refine wp_letter (fun W3 => Below W.heap.size W W3 ∧ Blk W3 z 131 #[.int .i64 i, .int .i64 j, .bool true, .bool true, .int .i64 br, .int .i64 bn, .int .i64 ar, .int .i64 an, .slice A0 n0 c0]) ⟨F3.below (fun _ _ h => h), Z3⟩ ?_
  clear F3 Z3 cZ fZ cX2 hxz
  rintro W3 ⟨b3, Z3⟩
  have D3 := HP.out.1.below b3
  have X3 := HP.out.2.1.below b3 HP.out.2.1.lt
  obtain ⟨bA, oA, hAa, hbA, hMA, hcA⟩ := D3.as_.at_ D3.hj
  subst hAa
  have hPj := hcA j D3.hj
  have hMx : ∀ m, M m → m < x := fun m hm => by rw [HP.out.2.2.2.2.1]; exact (HD.out.net.lt m hm).2
  have hOx : ¬ NetO n g gr ga x := fun h => by have := hMx x (D3.net.om x h); omega
  have hOA : ¬ NetO n g gr ga bA := fun h => hMA (D3.net.om _ h)
  have hS : ∀ wA wB, Below W3.heap.size W3 wA → Fr wA.heap.size (NetO n g gr ga) wA wB → wB.cell? ⟨bA, oA + j, none⟩ = some (.pointer (some ⟨g j, 0, none⟩)) ∧ wB.cell? ⟨x, 1, none⟩ = some (.int .i64 j) ∧ wB.cell? ⟨x, 4, none⟩ = some (.int .i64 br) ∧ wB.cell? ⟨x, 5, none⟩ = some (.int .i64 bn) ∧ wB.cell? ⟨x, 8, none⟩ = some (.slice A0 n0 c0) := fun wA wB b f => by
    have hXb : Blk wB x 131 _ := (X3.below b X3.lt).fr f (Nat.lt_of_lt_of_le X3.lt b.size) hOx
    exact ⟨(f.cell (p := ⟨bA, oA + j, none⟩) (Nat.lt_of_lt_of_le hbA b.size) hOA).trans ((b.cell (p := ⟨bA, oA + j, none⟩) hbA).trans hPj), hXb.cell 1, hXb.cell 4, hXb.cell 5, hXb.cell 8⟩
  have hd : Below W3.heap.size W3 W3.drew := (Below.refl _ _).drew
  obtain ⟨q1, q2, q3, q4, q5⟩ := hS W3 W3 (Below.refl _ _) (Fr.refl _ _ _)
  have kc := (D3.below hd).take br bn
  have H3 := Lib.hid (And.intro D3 (And.intro b3 (And.intro X3 (And.intro Z3 (And.intro hS (And.intro hd (And.intro hMx (And.intro hOx hOA))))))))
  clear D3 b3 X3 Z3 hcA hMA hMx hOx hOA hS hPj hd
  obtain ⟨s', hs'⟩ : ∃ s', s' = upd s j ((s j).take br bn led) := ⟨_, rfl⟩
  rw [← hs'] at kc
  have HS := Lib.hid hs'
  clear hs'
  rcases errq_cases (s j) br bn A with ⟨hr, he⟩ | ⟨hr, er, he⟩
  · rw [he] at kc
    have HC := Lib.hid (And.intro kc hr)
    clear kc hr he
    go_region_held3 (fun w' => w'.cell? ⟨bA, oA + j, none⟩ = some (.pointer (some ⟨g j, 0, none⟩)) ∧ w'.cell? ⟨x, 1, none⟩ = some (.int .i64 j) ∧ w'.cell? ⟨x, 4, none⟩ = some (.int .i64 br) ∧ w'.cell? ⟨x, 5, none⟩ = some (.int .i64 bn) ∧ w'.cell? ⟨x, 8, none⟩ = some (.slice A0 n0 c0)) (go_keep)
      (first
        | (go_at_call 32
           refine HC.out.1.mono ?_
           rintro e w4 ⟨rfl, N4, f4⟩
           obtain ⟨k1, k2, k3, k4, k5⟩ := H3.out.2.2.2.2.1 _ w4 H3.out.2.2.2.2.2.1 f4
           have H4 := Lib.hid (And.intro N4 f4)
           clear N4 f4))
    have f4 := H4.out.2
    have Z4 := (H3.out.2.2.2.1.below H3.out.2.2.2.2.2.1 H3.out.2.2.2.1.lt).fr f4 (Nat.lt_of_lt_of_le H3.out.2.2.2.1.lt H3.out.2.2.2.2.2.1.size) (fun h => by have := H3.out.2.2.2.2.2.2.1 z (H3.out.1.net.om z h); have := H2.out.2.2; have := HP.out.2.1.lt; omega)
    have hrZ : w4.rangeAt z 0 [.int .i64 i, .int .i64 j, .bool true, .bool true, .int .i64 br, .int .i64 bn, .int .i64 ar, .int .i64 an, .slice A0 n0 c0] := Z4.range
    have F4 : Fr w.heap.size (NetO n g gr ga) w w4 := (Fr.of_below (HP.out.2.2.2.1.trans ((H3.out.2.1.trans (H3.out.2.2.2.2.2.1.mono H3.out.2.1.size)).mono HP.out.2.2.2.1.size)) _).trans (f4.mono (Nat.le_trans HP.out.2.2.2.1.size (Nat.le_trans H3.out.2.1.size H3.out.2.2.2.2.2.1.size)) (fun _ _ h => h))
    have L4 : Lf M w4 (.slice A0 n0 c0) led := ((H3.out.1.below H3.out.2.2.2.2.2.1).next H4.out.1 f4).led
    have H5 := Lib.hid (And.intro F4 L4)
    clear f4 Z4 F4 L4 q1 q2 q3 q4 q5 k1 k2 k3 k4 k5
    obtain ⟨i1, z1, hi1, hz11, hz12, hz13, hz14⟩ := let_info'
    go_wp2_with (first
      | ((with_reducible refine law_load 131 (.tmp 8) z 0 [.int .i64 i, .int .i64 j, .bool true, .bool true, .int .i64 br, .int .i64 bn, .int .i64 ar, .int .i64 an, .slice A0 n0 c0] ?_ hrZ Tryd.underlying131 ?_ ?_ ?_); rfl; rfl; exact let_info)
      | ((with_reducible refine law_buildSlice1 126 131 (.tmp 37) i1 z1 #[.int .i64 i, .int .i64 j, .bool true, .bool true, .int .i64 br, .int .i64 bn, .int .i64 ar, .int .i64 an, .slice A0 n0 c0] 9 ?_ Tryd.underlying126 hi1 hz11 hz12 hz14 ?_ (by decide) (by decide) ?_); rfl; rfl)
      | fail)
    have b5 : Below w4.heap.size w4 (w4.alloc (.cells #[.int .i64 i, .int .i64 j, .bool true, .bool true, .int .i64 br, .int .i64 bn, .int .i64 ar, .int .i64 an, .slice A0 n0 c0] 131)) := (Below.refl _ _).alloc (Nat.le_refl _) _
    refine bodyM_ret (v := .slice (some ⟨w4.heap.size, 0, none⟩) 1 1) rfl (results_tmp (t := 6) rfl _ _ _) ?_
    exact ⟨_, [(⟨i, j, true, true, (br, bn), (ar, an), led⟩, .slice A0 n0 c0)], s', R, F, lv, rfl, LetsAt.one ⟨i, j, true, true, (br, bn), (ar, an), led⟩ H5.out.1.size H5.out.2, H4.out.1.below b5, H5.out.1.trans (Fr.of_below (b5.mono H5.out.1.size) _), .inl ⟨rfl, rfl, rfl, rfl, HS.out, by simp [HC.out.2]⟩⟩
  · rw [he] at kc
    have HC := Lib.hid (And.intro kc hr)
    clear kc hr he
    go_region_held3 (fun w' => w'.cell? ⟨bA, oA + j, none⟩ = some (.pointer (some ⟨g j, 0, none⟩)) ∧ w'.cell? ⟨x, 1, none⟩ = some (.int .i64 j) ∧ w'.cell? ⟨x, 4, none⟩ = some (.int .i64 br) ∧ w'.cell? ⟨x, 5, none⟩ = some (.int .i64 bn) ∧ w'.cell? ⟨x, 8, none⟩ = some (.slice A0 n0 c0)) (go_keep)
      (first
        | (go_at_call 32
           refine HC.out.1.mono ?_
           rintro e w4 ⟨rfl, N4, f4⟩
           obtain ⟨k1, k2, k3, k4, k5⟩ := H3.out.2.2.2.2.1 _ w4 H3.out.2.2.2.2.2.1 f4
           have H4 := Lib.hid (And.intro N4 f4)
           clear N4 f4))
    have F4 : Fr w.heap.size (NetO n g gr ga) w w4 := (Fr.of_below (HP.out.2.2.2.1.trans ((H3.out.2.1.trans (H3.out.2.2.2.2.2.1.mono H3.out.2.1.size)).mono HP.out.2.2.2.1.size)) _).trans (H4.out.2.mono (Nat.le_trans HP.out.2.2.2.1.size (Nat.le_trans H3.out.2.1.size H3.out.2.2.2.2.2.1.size)) (fun _ _ h => h))
    have H5 := Lib.hid F4
    clear F4 q1 q2 q3 q4 q5 k1 k2 k3 k4 k5
    go_wp2_with (fail)
    refine bodyM_ret (v := .slice none 0 0) rfl (results_tmp (t := 6) rfl _ _ _) ?_
    exact ⟨_, [], s', R, F, lv, rfl, LetsAt.nil_ _ _ _, H4.out.1, H5.out, .inl ⟨rfl, rfl, rfl, rfl, HS.out, by simp [HC.out.2]⟩⟩
end
end Go.Proofs.YtnlncfjibbdimaaDoor

namespace Go.Proofs.YtnlncfjibbdimaaDoor
open Go.RowKit
set_option linter.unusedSimpArgs false
set_option linter.unusedVariables false
attribute [local go_sem] Oper.semAt_some

section
variable {M : Nat → Prop} {w : World} {B n i j : Nat} {g gr ga : Nat → Nat} {s : Nat → Acc} {R : Nat → Rnd} {F : Nat → Nat → Bool} {pv lv : Nat → Value} {A : Nat → Addr} {Aa Ar : Option Addr} {led : List Cmd} {ov : Value} {br bn ar an : Int}
set_option maxRecDepth 100000 in
set_option maxHeartbeats 3200000 in
theorem deliver_prep (ca cr : Nat) (D : DelIn M w B n g gr ga s R F pv lv A Aa Ar i j led ov) :
    Calls Tryd.prog 68 #[.slice Aa n ca, .slice Ar n cr, .agg ((⟨i, j, false, false, (br, bn), (ar, an), led⟩ : Let).cells ov).toArray] w (DelPost M B n g gr ga s R F pv ⟨i, j, false, false, (br, bn), (ar, an), led⟩ w) := by
  obtain ⟨A0, n0, c0, rfl⟩ := D.form
  obtain ⟨bR, oR, rfl, hbR, hMR, hcR⟩ := D.rs.at_ D.hi
  have hPi := hcR i D.hi
  have hi1 : (i : Int) < n := by have := D.hi; omega
  have hj1 : (j : Int) < n := by have := D.hj; omega
  have hnR : ¬ bR = w.heap.size := by omega
  have hnR2 : ¬ bR = w.heap.size + 1 := by omega
  simp only [Let.cells]
  refine callsIn_wide.1 (callsIn_of_wp_marks (n := 5) Tryd.func68 rfl trivial (wpIn_wide.2 ?_) rfl)
  simp only [Tryd.ntmps68, List.size_toArray, List.length_cons, List.length_nil, Nat.reduceAdd, Nat.reduceSub, Array.replicate_succ, Array.replicate_zero, List.push_toArray, List.append_toArray, List.nil_append, List.cons_append]
  have HD := Lib.hid D
  clear D hcR
  go_upto_region 2 with (fail)
  have bA : Below w.heap.size w ((w.alloc (.cells #[.int .i64 i, .int .i64 j, .bool false, .bool false, .int .i64 br, .int .i64 bn, .int .i64 ar, .int .i64 an, .slice A0 n0 c0] 131)).alloc (.cells #[.pointer (some ⟨gr i, 0, none⟩)] 97)) := ((Below.refl _ _).alloc (Nat.le_refl _) _).alloc (by simp) _
  refine wp_letter (fun W => DelIn M W B n g gr ga s R F pv lv A Aa (some ⟨bR, oR, none⟩) i j led (.slice A0 n0 c0) ∧ Blk W w.heap.size 131 #[.int .i64 i, .int .i64 j, .bool false, .bool false, .int .i64 br, .int .i64 bn, .int .i64 ar, .int .i64 an, .slice A0 n0 c0] ∧ Blk W (w.heap.size + 1) 97 #[.pointer (some ⟨gr i, 0, none⟩)] ∧ Below w.heap.size w W)
    ⟨HD.out.below bA, (Blk.new _ _ _).alloc _, by have := Blk.new (w.alloc (.cells #[.int .i64 i, .int .i64 j, .bool false, .bool false, .int .i64 br, .int .i64 bn, .int .i64 ar, .int .i64 an, .slice A0 n0 c0] 131)) 97 #[.pointer (some ⟨gr i, 0, none⟩)]; rwa [World.size_alloc] at this, bA⟩ ?_
  clear bA hPi hnR hnR2 hbR hMR hi1
  rintro W ⟨D1, X1, Y1, b1⟩
  obtain ⟨x, hx⟩ : ∃ x, x = w.heap.size := ⟨_, rfl⟩
  obtain ⟨y, hy⟩ : ∃ y, y = w.heap.size + 1 := ⟨_, rfl⟩
  rw [← hx] at X1
  rw [← hy] at Y1
  rw [← hy, ← hx]
  have cX := X1.cell
  have hrX : W.rangeAt x 0 [.int .i64 i, .int .i64 j, .bool false, .bool false, .int .i64 br, .int .i64 bn, .int .i64 ar, .int .i64 an, .slice A0 n0 c0] := X1.range
  have HP := Lib.hid (And.intro D1 (And.intro X1 (And.intro Y1 (And.intro b1 (And.intro hx hy)))))
  clear D1 X1 Y1 b1 hx hy
  go_upto_region 4 with (first
    | ((with_reducible refine law_load 131 (.tmp 5) x 0 [.int .i64 i, .int .i64 j, .bool false, .bool false, .int .i64 br, .int .i64 bn, .int .i64 ar, .int .i64 an, .slice A0 n0 c0] ?_ hrX Tryd.underlying131 ?_ ?_ ?_); rfl; rfl; exact let_info)
    | ((with_reducible refine law_store_fresh 131 (.tmp 8) (.tmp 22) W 131 _ #[.int .i64 i, .int .i64 j, .bool false, .bool false, .int .i64 br, .int .i64 bn, .int .i64 ar, .int .i64 an, .slice A0 n0 c0] ?_ ?_ rfl ?_ ?_ ?_ ?_); rfl; rfl; exact let_info; rfl; rfl)
    | fail)
  have bB : Below W.heap.size W (W.alloc (.cells #[.int .i64 i, .int .i64 j, .bool false, .bool false, .int .i64 br, .int .i64 bn, .int .i64 ar, .int .i64 an, .slice A0 n0 c0] 131)) := (Below.refl _ _).alloc (Nat.le_refl _) _
  refine wp_letter (fun W2 => Below W.heap.size W W2 ∧ Blk W2 W.heap.size 131 #[.int .i64 i, .int .i64 j, .bool false, .bool false, .int .i64 br, .int .i64 bn, .int .i64 ar, .int .i64 an, .slice A0 n0 c0]) ⟨bB, Blk.new _ _ _⟩ ?_
  clear bB hrX cX
  rintro W2 ⟨b2, Z2⟩
  obtain ⟨z, hz⟩ : ∃ z, z = W.heap.size := ⟨_, rfl⟩
  rw [← hz] at Z2
  rw [← hz]
  have cZ := Z2.cell
  have fZ := Z2.frozen
  have cX2 := (HP.out.2.1.below b2 HP.out.2.1.lt).cell
  have hxz : ¬ x = z := by have := HP.out.2.1.lt; omega
  have H2 := Lib.hid (And.intro b2 (And.intro Z2 hz))
  clear b2 Z2 hz
  go_upto_region 9 with (fail)
  have Z3 : Blk (W2.setCell ⟨z, 3, none⟩ (.bool true)) z 131 #[.int .i64 i, .int .i64 j, .bool false, .bool true, .int .i64 br, .int .i64 bn, .int .i64 ar, .int .i64 an, .slice A0 n0 c0] := H2.out.2.1.set_ 3 (.bool true)
  have F3 : Fr W.heap.size (fun _ => False) W (W2.setCell ⟨z, 3, none⟩ (.bool true)) := (Fr.of_below H2.out.1 _).trans ((Fr.refl _ (· = z) _).setCell (p := ⟨z, 3, none⟩) (.inl rfl) _ |>.mono H2.out.1.size (fun k h1 h2 => by have := H2.out.2.2; omega))
  refine wp_letter (fun W3 => Below W.heap.size W W3 ∧ Blk W3 z 131 #[.int .i64 i, .int .i64 j, .bool false, .bool true, .int .i64 br, .int .i64 bn, .int .i64 ar, .int .i64 an, .slice A0 n0 c0]) ⟨F3.below (fun _ _ h => h), Z3⟩ ?_
  clear F3 Z3 cZ fZ cX2 hxz
  rintro W3 ⟨b3, Z3⟩
  have D3 := HP.out.1.more b3 (by rw [H2.out.2.2]; exact Nat.le_refl _) Z3.lt
  obtain ⟨M1, hM1⟩ : ∃ M1 : Nat → Prop, M1 = fun k => M k ∨ k = z := ⟨_, rfl⟩
  rw [← hM1] at D3
  have X3 := HP.out.2.1.below b3 HP.out.2.1.lt
  obtain ⟨bA, oA, hAa, hbA, hMA, hcA⟩ := D3.as_.at_ D3.hj
  subst hAa
  have hPj := hcA j D3.hj
  have hMx : ∀ m, M m → m < x := fun m hm => by rw [HP.out.2.2.2.2.1]; exact (HD.out.net.lt m hm).2
  have hOx : ¬ NetO n g gr ga x := fun h => by have := hMx x (HD.out.net.om x h); omega
  have hOA : ¬ NetO n g gr ga bA := fun h => hMA (D3.net.om _ h)
  have hS : ∀ wA wB, Below W3.heap.size W3 wA → Fr wA.heap.size (NetO n g gr ga) wA wB → wB.cell? ⟨bA, oA + j, none⟩ = some (.pointer (some ⟨g j, 0, none⟩)) ∧ wB.cell? ⟨x, 1, none⟩ = some (.int .i64 j) ∧ wB.cell? ⟨x, 4, none⟩ = some (.int .i64 br) ∧ wB.cell? ⟨x, 5, none⟩ = some (.int .i64 bn) := fun wA wB b f => by
    have hXb : Blk wB x 131 _ := (X3.below b X3.lt).fr f (Nat.lt_of_lt_of_le X3.lt b.size) hOx
    exact ⟨(f.cell (p := ⟨bA, oA + j, none⟩) (Nat.lt_of_lt_of_le hbA b.size) hOA).trans ((b.cell (p := ⟨bA, oA + j, none⟩) hbA).trans hPj), hXb.cell 1, hXb.cell 4, hXb.cell 5⟩
  have hd : Below W3.heap.size W3 W3.drew := (Below.refl _ _).drew
  have ha : Below W3.heap.size W3 ((W3.alloc (.cells #[.int .i64 0, .int .i64 0] 23)).drew) := ((Below.refl _ _).alloc (Nat.le_refl _) _).drew
  obtain ⟨q1, q2, q3, q4⟩ := hS W3 W3 (Below.refl _ _) (Fr.refl _ _ _)
  obtain ⟨s', hs'⟩ : ∃ s', s' = upd s j ((s j).prep br bn) := ⟨_, rfl⟩
  obtain ⟨⟨TR, hTR⟩, ⟨TN, hTN⟩, ⟨ev, hev⟩⟩ : (∃ R, R = (s j).toldR br bn) ∧ (∃ N, N = (s j).toldN br bn) ∧ (∃ er, er = errq A ((s j).refuse br bn)) := ⟨⟨_, rfl⟩, ⟨_, rfl⟩, ⟨_, rfl⟩⟩
  have kc := (D3.below hd).prep br bn
  have kb := D3.prepB br bn 23 #[.int .i64 0, .int .i64 0]
  rw [← hs', ← hTR, ← hTN, ← hev] at kc kb
  have H3 := Lib.hid (And.intro D3 (And.intro b3 (And.intro X3 (And.intro Z3 (And.intro hS (And.intro hd (And.intro hMx (And.intro hOx hOA))))))))
  have HC := Lib.hid (And.intro kc kb)
  have HA := Lib.hid ha
  have HM := Lib.hid hM1
  have HS := Lib.hid (And.intro hs' (And.intro hTR (And.intro hTN hev)))
  have hxl : x < W3.heap.size := H3.out.2.2.1.lt
  have hn1 : ¬ bA = W3.heap.size := by omega
  have hn2 : ¬ x = W3.heap.size := by omega
  have hOW : ¬ NetO n g gr ga W3.heap.size := fun h => by have := (H3.out.1.net.lt _ (H3.out.1.net.om _ h)).2; omega
  have HW := Lib.hid hOW
  clear D3 b3 X3 Z3 hcA hMA hMx hOx hOA hS hPj hd kc kb hs' hTR hTN hev ha hOW hM1
  go_cut [9, 10, 11] from 39 to 51 (fun v9 v10 v11 wx => ∃ q C kk cc, v9 = .pointer (some ⟨q, 0, none⟩) ∧ v10 = .slice C kk cc ∧ v11 = ev ∧ NetF M1 wx B n g gr ga s' R F pv lv ∧ Fr W3.heap.size (NetO n g gr ga) W3 wx ∧ Lf M1 wx (.slice C kk cc) ((s j).toldL br bn) ∧ Blk wx q 23 #[.int .i64 TR, .int .i64 TN] ∧ W3.heap.size ≤ q)
  case first =>
    go_region_held3 (fun w' => w'.cell? ⟨bA, oA + j, none⟩ = some (.pointer (some ⟨g j, 0, none⟩)) ∧ w'.cell? ⟨x, 1, none⟩ = some (.int .i64 j) ∧ w'.cell? ⟨x, 4, none⟩ = some (.int .i64 br) ∧ w'.cell? ⟨x, 5, none⟩ = some (.int .i64 bn)) (go_keep)
      (first
        | (go_at_call 31
           (with_reducible refine HC.out.1.mono ?_)
           rintro e wA ⟨C, kk, cc, rfl, N4, f4, l4⟩
           obtain ⟨k1, k2, k3, k4⟩ := H3.out.2.2.2.2.1 _ wA H3.out.2.2.2.2.2.1 f4
           have nz1 : ¬ bA = wA.heap.size := by have := f4.size; have := hbA; simp only [World.size_drew] at *; omega
           have nz2 : ¬ x = wA.heap.size := by have := f4.size; have := hxl; simp only [World.size_drew] at *; omega
           have H4 := Lib.hid (And.intro N4 (And.intro f4 l4))
           clear N4 f4 l4)
        | (go_at_call 31
           (with_reducible refine HC.out.2.mono ?_)
           rintro e wA ⟨C, kk, cc, rfl, N4, f4⟩
           obtain ⟨k1, k2, k3, k4⟩ := H3.out.2.2.2.2.1 _ wA HA.out f4
           have bq := ((Blk.new W3 23 #[.int .i64 0, .int .i64 0]).drew).fr f4 (by simp) HW.out
           have f2 : ∀ u u', Fr wA.heap.size (· = W3.heap.size) wA ((wA.setCell ⟨W3.heap.size, 0, none⟩ u).setCell ⟨W3.heap.size, 1, none⟩ u') := fun u u' => Fr.two13 wA W3.heap.size u u'
           have hwl := bq.lt
           have e1 := fun u u' => ((f2 u u').cell (p := ⟨bA, oA + j, none⟩) (Nat.lt_trans hbA hwl) hn1).trans k1
           have e2 := fun u u' => ((f2 u u').cell (p := ⟨x, 1, none⟩) (Nat.lt_trans hxl hwl) hn2).trans k2
           have e3 := fun u u' => ((f2 u u').cell (p := ⟨x, 4, none⟩) (Nat.lt_trans hxl hwl) hn2).trans k3
           have e4 := fun u u' => ((f2 u u').cell (p := ⟨x, 5, none⟩) (Nat.lt_trans hxl hwl) hn2).trans k4
           have H4 := Lib.hid (N4 (.int .i64 TR) (.int .i64 TN))
           clear N4 f4 f2
           have z0 := bq.cell 0
           have z1 := bq.cell 1
           have y0 := bq.frozen 0
           have y1 := bq.frozen 1))
    all_goals (go_wp2_with (fail))
    all_goals go_meet
    all_goals first
      | exact ⟨_, _, _, _, rfl, rfl, rfl, H4.out.1, H4.out.2.1, H4.out.2.2, (bq.set_ 0 (.int .i64 TR)).set_ 1 (.int .i64 TN), Nat.le_refl _⟩
      | (have b5 : Below wA.heap.size wA (wA.alloc (.cells #[.int .i64 TR, .int .i64 TN] 23)) := (Below.refl _ _).alloc (Nat.le_refl _) _
         have F5 : Fr W3.heap.size (NetO n g gr ga) W3 wA := (Fr.of_below H3.out.2.2.2.2.2.1 _).trans (H4.out.2.1.mono H3.out.2.2.2.2.2.1.size (fun _ _ h => h))
         exact ⟨_, _, _, _, rfl, rfl, rfl, H4.out.1.below b5, F5.trans (Fr.of_below (b5.mono F5.size) _), H4.out.2.2.below b5, Blk.new _ _ _, F5.size⟩)
  case rest =>
    obtain ⟨q, C, kk, cc, rfl, rfl, hev, N5, F5, L5, B5, hq5⟩ := hcut
    obtain ⟨w5, hw5⟩ : ∃ w5, w5 = wc := ⟨_, rfl⟩
    rw [← hw5] at N5 F5 L5 B5 ⊢
    clear hw5
    have hzl : z < W3.heap.size := H3.out.2.2.2.1.lt
    have hOz : ¬ NetO n g gr ga z := fun h => by have := H3.out.2.2.2.2.2.2.1 z (HD.out.net.om z h); have := H2.out.2.2; have := HP.out.2.1.lt; omega
    have Z5 := H3.out.2.2.2.1.fr F5 hzl hOz
    have F05 : Fr w.heap.size (NetO n g gr ga) w w5 := (Fr.of_below (HP.out.2.2.2.1.trans (H3.out.2.1.mono HP.out.2.2.2.1.size)) _).trans (F5.mono (Nat.le_trans HP.out.2.2.2.1.size H3.out.2.1.size) (fun _ _ h => h))
    have hwz : w.heap.size ≤ z := by have := H2.out.2.2; have := HP.out.2.2.2.1.size; omega
    rcases errq_cases (s j) br bn A with ⟨hr, he⟩ | ⟨hr, er, he⟩
    · rw [HS.out.2.2.2, he] at hev
      subst hev
      have e1 : TR = (s j).ar := by rw [HS.out.2.1]; unfold Acc.toldR; rw [if_pos hr]
      have e2 : TN = (s j).an := by rw [HS.out.2.2.1]; unfold Acc.toldN; rw [if_pos hr]
      have e3 : (s j).toldL br bn = (s j).led := by unfold Acc.toldL; rw [if_pos hr]
      have y0 := B5.cell 0
      have y1 := B5.cell 1
      have cZ := Z5.cell
      have fZ := Z5.frozen
      have nz1 : ¬ q = z := by omega
      have nz2 : ¬ z = q := by omega
      have HE := Lib.hid (And.intro e1 (And.intro e2 (And.intro e3 hr)))
      have H5 := Lib.hid (And.intro N5 (And.intro F05 (And.intro L5 (And.intro Z5 (And.intro hOz hwz)))))
      clear N5 F5 F05 L5 Z5 B5 hOz e1 e2 e3 hr he hq5 q1 q2 q3 q4 hwz
      go_upto_region 13 with (fail)
      have Z6 : Blk (((w5.setCell ⟨z, 6, none⟩ (.int .i64 TR)).setCell ⟨z, 7, none⟩ (.int .i64 TN)).setCell ⟨z, 8, none⟩ (.slice C kk cc)) z 131 #[.int .i64 i, .int .i64 j, .bool false, .bool true, .int .i64 br, .int .i64 bn, .int .i64 TR, .int .i64 TN, .slice C kk cc] := ((H5.out.2.2.2.1.set_ 6 (.int .i64 TR)).set_ 7 (.int .i64 TN)).set_ 8 (.slice C kk cc)
      have F6 : Fr w5.heap.size (· = z) w5 (((w5.setCell ⟨z, 6, none⟩ (.int .i64 TR)).setCell ⟨z, 7, none⟩ (.int .i64 TN)).setCell ⟨z, 8, none⟩ (.slice C kk cc)) := (((Fr.refl w5.heap.size (· = z) w5).setCell (p := ⟨z, 6, none⟩) (.inl rfl) _).setCell (p := ⟨z, 7, none⟩) (.inl rfl) _).setCell (p := ⟨z, 8, none⟩) (.inl rfl) _
      have hzM : ∀ k, k = z → M1 k := fun k hk => by rw [HM.out]; exact .inr hk
      have N6 := (H5.out.1.fr F6 (Nat.le_refl _) hzM (fun k hk => by rw [hk]; exact H5.out.2.2.2.2.1)).weak (M := M) (fun k h => by rw [HM.out]; exact .inl h) HD.out.net.om
      have L6 := (H5.out.2.2.1.fr F6 (Nat.le_refl _) hzM).grow (M' := M) (fun m hm => .inl (by rw [HM.out]; exact .inl hm))
      have F06 := H5.out.2.1.trans (F6.mono H5.out.2.1.size (fun k h1 h2 => by have := H5.out.2.2.2.2.2; omega))
      refine wp_letter (fun W => Blk W z 131 #[.int .i64 i, .int .i64 j, .bool false, .bool true, .int .i64 br, .int .i64 bn, .int .i64 TR, .int .i64 TN, .slice C kk cc] ∧ NetF M W B n g gr ga s' R F pv lv ∧ Lf M W (.slice C kk cc) ((s j).toldL br bn) ∧ Fr w.heap.size (NetO n g gr ga) w W) ⟨Z6, N6, L6, F06⟩ ?_
      clear Z6 F6 hzM N6 L6 F06 cZ fZ y0 y1
      rintro w6 ⟨Z6, N6, L6, F06⟩
      have hrZ : w6.rangeAt z 0 [.int .i64 i, .int .i64 j, .bool false, .bool true, .int .i64 br, .int .i64 bn, .int .i64 TR, .int .i64 TN, .slice C kk cc] := Z6.range
      have H6 := Lib.hid (And.intro N6 (And.intro L6 F06))
      clear Z6 N6 L6 F06
      obtain ⟨i1, z1, hi1, hz11, hz12, hz13, hz14⟩ := let_info'
      go_wp2_with (first
        | ((with_reducible refine law_load 131 (.tmp 8) z 0 [.int .i64 i, .int .i64 j, .bool false, .bool true, .int .i64 br, .int .i64 bn, .int .i64 TR, .int .i64 TN, .slice C kk cc] ?_ hrZ Tryd.underlying131 ?_ ?_ ?_); rfl; rfl; exact let_info)
        | ((with_reducible refine law_buildSlice1 126 131 (.tmp 57) i1 z1 #[.int .i64 i, .int .i64 j, .bool false, .bool true, .int .i64 br, .int .i64 bn, .int .i64 TR, .int .i64 TN, .slice C kk cc] 9 ?_ Tryd.underlying126 hi1 hz11 hz12 hz14 ?_ (by decide) (by decide) ?_); rfl; rfl)
        | fail)
      have b7 : Below w6.heap.size w6 (w6.alloc (.cells #[.int .i64 i, .int .i64 j, .bool false, .bool true, .int .i64 br, .int .i64 bn, .int .i64 TR, .int .i64 TN, .slice C kk cc] 131)) := (Below.refl _ _).alloc (Nat.le_refl _) _
      refine bodyM_ret (v := .slice (some ⟨w6.heap.size, 0, none⟩) 1 1) rfl (results_tmp (t := 6) rfl _ _ _) ?_
      have hE := HE.out
      exact ⟨_, [(⟨i, j, false, true, (br, bn), (TR, TN), (s j).toldL br bn⟩, .slice C kk cc)], s', R, F, lv, rfl, LetsAt.one ⟨i, j, false, true, (br, bn), (TR, TN), (s j).toldL br bn⟩ H6.out.2.2.size H6.out.2.1, H6.out.1.below b7, H6.out.2.2.trans (Fr.of_below (b7.mono H6.out.2.2.size) _), .inr (.inl ⟨rfl, rfl, rfl, rfl, HS.out.1, by simp [hE.1, hE.2.1, hE.2.2.1, hE.2.2.2]⟩)⟩
    · rw [HS.out.2.2.2, he] at hev
      subst hev
      have H5 := Lib.hid (And.intro N5 (And.intro F05 hr))
      clear N5 F5 F05 L5 Z5 B5 hOz hr he hq5 q1 q2 q3 q4 hwz
      go_wp2_with (fail)
      refine bodyM_ret (v := .slice none 0 0) rfl (results_tmp (t := 6) rfl _ _ _) ?_
      exact ⟨_, [], s', R, F, lv, rfl, LetsAt.nil_ _ _ _, H5.out.1.weak (fun k h => by rw [HM.out]; exact .inl h) HD.out.net.om, H5.out.2.1, .inr (.inl ⟨rfl, rfl, rfl, rfl, HS.out.1, by simp [H5.out.2.2]⟩)⟩
end
end Go.Proofs.YtnlncfjibbdimaaDoor

namespace Go.Proofs.YtnlncfjibbdimaaDoor
open Go.RowKit
set_option linter.unusedSimpArgs false
set_option linter.unusedVariables false
attribute [local go_sem] Oper.semAt_some

section
variable {M : Nat → Prop} {w : World} {B n i j : Nat} {g gr ga : Nat → Nat} {s : Nat → Acc} {R : Nat → Rnd} {F : Nat → Nat → Bool} {pv lv : Nat → Value} {A : Nat → Addr} {Aa Ar : Option Addr} {led : List Cmd} {ov : Value} {br bn ar an : Int}
set_option maxRecDepth 100000 in
set_option maxHeartbeats 3200000 in
theorem deliver_acc (ca cr : Nat) (D : DelIn M w B n g gr ga s R F pv lv A Aa Ar i j led ov) :
    Calls Tryd.prog 68 #[.slice Aa n ca, .slice Ar n cr, .agg ((⟨i, j, true, true, (br, bn), (ar, an), led⟩ : Let).cells ov).toArray] w (DelPost M B n g gr ga s R F pv ⟨i, j, true, true, (br, bn), (ar, an), led⟩ w) := by
  obtain ⟨A0, n0, c0, rfl⟩ := D.form
  obtain ⟨bR, oR, rfl, hbR, hMR, hcR⟩ := D.rs.at_ D.hi
  have hPi := hcR i D.hi
  have hi1 : (i : Int) < n := by have := D.hi; omega
  have hj1 : (j : Int) < n := by have := D.hj; omega
  have hnR : ¬ bR = w.heap.size := by omega
  have hnR2 : ¬ bR = w.heap.size + 1 := by omega
  simp only [Let.cells]
  refine callsIn_wide.1 (callsIn_of_wp_marks (n := 5) Tryd.func68 rfl trivial (wpIn_wide.2 ?_) rfl)
  simp only [Tryd.ntmps68, List.size_toArray, List.length_cons, List.length_nil, Nat.reduceAdd, Nat.reduceSub, Array.replicate_succ, Array.replicate_zero, List.push_toArray, List.append_toArray, List.nil_append, List.cons_append]
  have HD := Lib.hid D
  clear D hcR
  go_upto_region 2 with (fail)
  have bA : Below w.heap.size w ((w.alloc (.cells #[.int .i64 i, .int .i64 j, .bool true, .bool true, .int .i64 br, .int .i64 bn, .int .i64 ar, .int .i64 an, .slice A0 n0 c0] 131)).alloc (.cells #[.pointer (some ⟨gr i, 0, none⟩)] 97)) := ((Below.refl _ _).alloc (Nat.le_refl _) _).alloc (by simp) _
  refine wp_letter (fun W => DelIn M W B n g gr ga s R F pv lv A Aa (some ⟨bR, oR, none⟩) i j led (.slice A0 n0 c0) ∧ Blk W w.heap.size 131 #[.int .i64 i, .int .i64 j, .bool true, .bool true, .int .i64 br, .int .i64 bn, .int .i64 ar, .int .i64 an, .slice A0 n0 c0] ∧ Blk W (w.heap.size + 1) 97 #[.pointer (some ⟨gr i, 0, none⟩)] ∧ Below w.heap.size w W)
    ⟨HD.out.below bA, (Blk.new _ _ _).alloc _, by have := Blk.new (w.alloc (.cells #[.int .i64 i, .int .i64 j, .bool true, .bool true, .int .i64 br, .int .i64 bn, .int .i64 ar, .int .i64 an, .slice A0 n0 c0] 131)) 97 #[.pointer (some ⟨gr i, 0, none⟩)]; rwa [World.size_alloc] at this, bA⟩ ?_
  clear bA hPi hnR hnR2 hbR hMR hi1
  rintro W ⟨D1, X1, Y1, b1⟩
  obtain ⟨x, hx⟩ : ∃ x, x = w.heap.size := ⟨_, rfl⟩
  obtain ⟨y, hy⟩ : ∃ y, y = w.heap.size + 1 := ⟨_, rfl⟩
  rw [← hx] at X1
  rw [← hy] at Y1
  rw [← hy, ← hx]
  have cX := X1.cell
  have cY := Y1.cell
  have kc := D1.acced br bn
  have HP := Lib.hid (And.intro b1 kc)
  clear D1 X1 Y1 kc hx hy b1
  go_wp2_with (first
    | (go_at_call 62
       refine HP.out.2.mono ?_
       rintro e w2 ⟨b, R', F', lv', rfl, N2, F2, h2⟩
       have H2 := Lib.hid (And.intro N2 (And.intro F2 h2))
       clear N2 F2 h2)
    | fail)
  refine bodyM_ret (v := .slice none 0 0) rfl (results_tmp (t := 6) rfl _ _ _) ?_
  exact ⟨_, [], s, R', F', lv', rfl, LetsAt.nil_ _ _ _, H2.out.1, (Fr.of_below HP.out.1 _).trans (H2.out.2.1.mono HP.out.1.size (fun _ _ h => h)), .inr (.inr (.inl ⟨rfl, rfl, rfl, rfl, H2.out.2.2⟩))⟩
end
end Go.Proofs.YtnlncfjibbdimaaDoor
