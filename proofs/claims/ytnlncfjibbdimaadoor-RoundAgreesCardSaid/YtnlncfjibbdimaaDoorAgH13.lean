/-
  RoundAgrees: the letters that a round sends out, while they are laid. No walk stands here.
  RoundAgrees: a promise is delivered to a round (68).
-/
import Derived.Test.YtnlncfjibbdimaaDoorAgE13
import Derived.Test.YtnlncfjibbdimaaDoorAgD13
import Derived.Test.YtnlncfjibbdimaaDoorBegs13
import Derived.Deep.CutBlock
import Derived.Deep.DeepCutAuto
import Derived.TacticsInMore
import Derived.LoopNIn
import Derived.LoopIn
import Derived.RangeFuncBound
import Derived.RangeFuncCalls
namespace Go.Proofs.YtnlncfjibbdimaaDoor
open Go.RowKit
set_option linter.unusedSimpArgs false
set_option linter.unusedVariables false

/-- A letter that tells, as its cells. -/
def tellc (i : Nat) (br bn : Int) (x : Int) (lv : Value) : List Value := [.int .i64 i, .int .i64 x, .bool true, .bool false, .int .i64 br, .int .i64 bn, .int .i64 0, .int .i64 0, lv]
def tellp (i : Nat) (br bn : Int) (ps : List (Int × Value)) : List Value := ps.flatMap fun p => tellc i br bn p.1 p.2
theorem tellp_length (i : Nat) (br bn : Int) (ps : List (Int × Value)) : (tellp i br bn ps).length = ps.length * 9 := by
  induction ps with
  | nil => rfl
  | cons p ps ih =>
    have e : tellp i br bn (p :: ps) = tellc i br bn p.1 p.2 ++ tellp i br bn ps := rfl
    rw [e, List.length_append, ih, List.length_cons]
    simp only [tellc, List.length_cons, List.length_nil]
    omega
theorem tellp_letc (i : Nat) (br bn : Int) (led : List Cmd) : ∀ ps : List (Int × Value), (∀ p ∈ ps, 0 ≤ p.1) → tellp i br bn ps = letc (ps.map fun p => ((⟨i, p.1.toNat, true, false, (br, bn), (0, 0), led⟩ : Let), p.2))
  | [], _ => rfl
  | p :: ps, h => by
    have ih := tellp_letc i br bn led ps (fun q hq => h q (by simp [hq]))
    have e1 : tellp i br bn (p :: ps) = tellc i br bn p.1 p.2 ++ tellp i br bn ps := rfl
    have e2 : letc ((p :: ps).map fun p => ((⟨i, p.1.toNat, true, false, (br, bn), (0, 0), led⟩ : Let), p.2)) = tellc i br bn (p.1.toNat : Int) p.2 ++ letc (ps.map fun p => ((⟨i, p.1.toNat, true, false, (br, bn), (0, 0), led⟩ : Let), p.2)) := rfl
    rw [e1, e2, ih, show ((p.1.toNat : Nat) : Int) = p.1 by have := h p (by simp); omega]
/-- The letters so far, in the box Bx: their ledgers lie apart from M, from the box and from their row. -/
def OutAt (M : Nat → Prop) (N Bx b i : Nat) (br bn : Int) (led : List Cmd) (pre : List Int) (W : World) : Prop :=
  ∃ v ps, Boxed W Bx 126 v ∧ W.ownsRow N 131 9 v pre.length (tellp i br bn ps) ∧ (∀ q, v.ownBlock = some q → q ≠ b) ∧ ps.map (·.1) = pre ∧ ∀ p ∈ ps, Lf (fun k => M k ∨ k = Bx ∨ v.ownBlock = some k) W p.2 led
section
variable {M : Nat → Prop} {N Bx b i : Nat} {br bn : Int} {led : List Cmd} {pre : List Int} {x : Int} {W u w1 : World} {v v' lv : Value} {ps : List (Int × Value)}
theorem outAt_own (M : Nat → Prop) (N Bx b i : Nat) (br bn : Int) (led : List Cmd) : Own (fun pre W => OutAt M N Bx b i br bn led pre W) := by
  rintro pre X Y row ⟨v, ps, hv, hr, hb, hm, hl⟩ hg hrow
  obtain ⟨u, hv', hr', he⟩ := holdsRow_own N Bx 126 131 9 (fun (_ : Unit) => pre.length) (fun _ => tellp i br bn ps) (fun _ u => u = v) () X Y row ⟨v, hv, hr, rfl⟩ hg hrow
  subst he
  exact ⟨_, ps, hv', hr', hb, hm, fun p hp => (hl p hp).kept hg hrow⟩
theorem OutAt.nil_ (hv : Boxed W Bx 126 v) (hr : W.ownsRow N 131 9 v 0 []) (hb : ∀ q, v.ownBlock = some q → q ≠ b) : OutAt M N Bx b i br bn led [] W := ⟨v, [], hv, hr, hb, rfl, fun p hp => (by cases hp)⟩
theorem OutAt.step (hv : Boxed u Bx 126 v) (hrow : u.ownsRow N 131 9 v pre.length (tellp i br bn ps)) (hvb : ∀ q, v.ownBlock = some q → q ≠ b) (hm : ps.map (·.1) = pre) (hl : ∀ p ∈ ps, Lf (fun k => M k ∨ k = Bx ∨ v.ownBlock = some k) u p.2 led)
    (hb : b < u.heap.size) (hbB : b ≠ Bx) (hN : N ≤ u.heap.size) (hB : N ≤ Bx) (hx : Lf (fun k => M k ∨ k = Bx ∨ v.ownBlock = some k) u lv led)
    (hown : w1.ownsRow N 131 9 v' (pre.length + 1) (tellp i br bn ps ++ tellc i br bn x lv)) (hgrow : (u.alloc (.cells (tellc i br bn x lv).toArray 131)).grownBy w1 v.ownBlock) (hat : v'.ownBlock = v.ownBlock ∨ v'.ownBlock = some (u.alloc (.cells (tellc i br bn x lv).toArray 131)).heap.size) :
    Boxed w1 Bx 126 v ∧ Below N u w1 ∧ OutAt M N Bx b i br bn led (pre ++ [x]) (w1.setCell ⟨Bx, 0, none⟩ v') ∧ KeepsOthers u (w1.setCell ⟨Bx, 0, none⟩ v') ∧ Below N u (w1.setCell ⟨Bx, 0, none⟩ v') ∧ Kb b u (w1.setCell ⟨Bx, 0, none⟩ v') := by
  obtain ⟨h1, h2, h3, h4, h5, h6, h7⟩ := Boxed.collected hv (by decide) hrow hN hB hown hgrow hat hb hbB hvb
  have F : Fr u.heap.size (fun k => M k ∨ k = Bx ∨ v.ownBlock = some k) u (w1.setCell ⟨Bx, 0, none⟩ v') := by
    have f1 : Fr u.heap.size (fun k => M k ∨ k = Bx ∨ v.ownBlock = some k) u w1 := ((Fr.refl _ _ u).alloc (Nat.le_refl _) (.cells (tellc i br bn x lv).toArray 131)).grown hgrow (by simp) (fun q hq => .inl (.inr (.inr hq)))
    exact f1.setCell (p := ⟨Bx, 0, none⟩) (.inl (.inr (.inl rfl))) v'
  have hL : ∀ q l, Lf (fun k => M k ∨ k = Bx ∨ v.ownBlock = some k) u q l → Lf (fun k => M k ∨ k = Bx ∨ v'.ownBlock = some k) (w1.setCell ⟨Bx, 0, none⟩ v') q l := fun q l ⟨lo, hi, k1, k2, k3⟩ => by
    refine ⟨lo, hi, k1.fr F k2 (fun k g1 g2 hk => by have := k3 k hk; omega), Nat.le_trans k2 F.size, fun m hm => ?_⟩
    rcases hm with hm | hm | hm
    · exact k3 m (.inl hm)
    · exact k3 m (.inr (.inl hm))
    · rcases hat with e | e
      · exact k3 m (.inr (.inr (e ▸ hm)))
      · rw [e] at hm; injection hm with hm; simp at hm; omega
  have F1 : Fr u.heap.size (fun k => v.ownBlock = some k) u w1 := ((Fr.refl _ _ u).alloc (Nat.le_refl _) (.cells (tellc i br bn x lv).toArray 131)).grown hgrow (by simp) (fun q hq => .inl hq)
  refine ⟨h1, (F1.mono hN (S' := fun _ => False) (fun k g1 g2 => by have := (hrow.lt k g2).1; omega)).below (fun _ _ h => h), ⟨v', ps ++ [(x, lv)], h2, ?_, h7, by simp [hm], fun p hp => ?_⟩, h4, h5, h6⟩
  · have e : tellp i br bn (ps ++ [(x, lv)]) = tellp i br bn ps ++ tellc i br bn x lv := by simp [tellp]
    rw [e, List.length_append]
    exact h3
  · rcases List.mem_append.1 hp with hp | hp
    · exact hL _ _ (hl p hp)
    · rw [List.mem_singleton] at hp
      subst hp
      exact hL _ _ hx
/-- All are laid: letters. -/
theorem OutAt.lets {ys : List Int} (h : OutAt M N Bx b i br bn led ys W) (hy : ∀ y ∈ ys, 0 ≤ y) {lo : Nat} (hlo : lo ≤ N) : ∃ v ps, Boxed W Bx 126 v ∧ W.ownsRow lo 131 9 v ps.length (letc ps) ∧ (∀ p ∈ ps, Lf M W p.2 p.1.led) ∧ ps.map (·.1) = ys.map (fun y => ⟨i, y.toNat, true, false, (br, bn), (0, 0), led⟩) := by
  obtain ⟨v, ps, h1, h2, h3, h4, h5⟩ := h
  have hl : ps.length = ys.length := by rw [← h4, List.length_map]
  refine ⟨v, ps.map fun p => ((⟨i, p.1.toNat, true, false, (br, bn), (0, 0), led⟩ : Let), p.2), h1, ?_, fun p hp => ?_, by rw [← h4]; simp⟩
  · rw [← tellp_letc i br bn led ps (fun p hp => hy _ (by rw [← h4]; exact List.mem_map.2 ⟨p, hp, rfl⟩)), List.length_map, hl]
    exact ⟨h2.1, h2.2.imp id (fun ⟨g, cap, cur, e1, e2, r⟩ => ⟨g, cap, cur, e1, Nat.le_trans hlo e2, r⟩)⟩
  · obtain ⟨q, hq, rfl⟩ := List.mem_map.1 hp
    exact (h5 q hq).grow (fun m hm => .inl (.inl hm))
end

section
variable {M : Nat → Prop} {w w' w0 : World} {B n i j : Nat} {g gr ga : Nat → Nat} {s : Nat → Acc} {R : Nat → Rnd} {F : Nat → Nat → Bool} {pv lv : Nat → Value} {A : Nat → Addr} {Aa Ar : Option Addr} {led : List Cmd} {ov : Value}
theorem DelIn.prom_no (h : DelIn M w B n g gr ga s R F pv lv A Aa Ar i j led ov) {br bn ar an : Int} (hf : ¬ ((R i).stage = 1 ∧ (br = (R i).br ∧ bn = (R i).bn) ∧ F i j = false)) :
    Calls Tryd.prog 58 #[.pointer (some ⟨gr i, 0, none⟩), .int .i64 j, .agg #[.int .i64 br, .int .i64 bn], .agg #[.int .i64 ar, .int .i64 an], ov] w fun e w' => e = .returned (.bool false) ∧ Below w.heap.size w w' := by
  obtain ⟨lo1, hi1, hL, hhi, hm⟩ := h.led
  refine ((h.net.rnds i h.hi).promise_no h.net.pos (from_ := j) (br := br) (bn := bn) (ar := ar) (an := an) hL hhi (hm _ (h.net.rnds i h.hi).mga) (A 4) (h.e13 4 (by simp)) (fun hh => hf ?_))
  obtain ⟨h1, h2, j', h3, h4, h5⟩ := hh
  obtain rfl : j' = j := by omega
  exact ⟨h1, h2, h5⟩
theorem DelIn.prom_yes (h : DelIn M w B n g gr ga s R F pv lv A Aa Ar i j led ov) {br bn ar an : Int} (hf : (R i).stage = 1 ∧ (br = (R i).br ∧ bn = (R i).bn) ∧ F i j = false) {r' : Rnd} (hr : (R i).promised n (F i) j ar an led = r') {st : Int} (hst : r'.stage = st) :
    Calls Tryd.prog 58 #[.pointer (some ⟨gr i, 0, none⟩), .int .i64 j, .agg #[.int .i64 br, .int .i64 bn], .agg #[.int .i64 ar, .int .i64 an], ov] w fun e w' => e = .returned (.bool true) ∧ ∃ lv', NetF M w' B n g gr ga s (upd R i r') (upd F i (promF n (F i) j)) pv lv' ∧ Fr w.heap.size (NetO n g gr ga) w w' ∧
      RndF w' M B (gr i) (ga i) n (promF n (F i) j) r' (pv i) (lv' i) ∧ Calls Tryd.prog 56 #[.pointer (some ⟨gr i, 0, none⟩)] w' (fun e w'' => e = .returned (.int .i64 st) ∧ Below w'.heap.size w' w'') := by
  obtain ⟨lo1, hi1, hL, hhi, hm⟩ := h.led
  obtain ⟨h1, h2, h3⟩ := hf
  refine ((h.net.rnds i h.hi).promise_yes (fun m hm => (h.net.lt m hm).2) h.net.pos (ar := ar) (an := an) hL hhi (hm _ (h.net.rnds i h.hi).mga) (A 4) (h.e13 4 (by simp)) h1 h2 h.hj h3).mono ?_
  rintro e w' ⟨rfl, l', r, f⟩
  rw [hr] at r
  have k := r.stage
  rw [hst] at k
  exact ⟨rfl, _, h.net.rnd h.hi f r, frO_rnd h.hi f, by rw [upd_same]; exact r, k⟩
end
theorem wp_buildSlice13 {t e : TypeId} {i : TypeInfo} {z : Value} {n : Nat} {P : Program} (ht : P.underlying t = some (.slice e)) (hi : P.info? e = some i) (hz : i.zero = some z) (hs : i.size = n) (hzs : z.cells.size = n) (h0 : 0 < n) (hle : n ≤ 16777216)
    {o : Oper} {a : Act} {W : World} {K : Act → World → Prop} {Q : Exit → Act → World → Prop} (x : Operand) (cells : Array Value) (ho : o.op = .buildSlice t 1 #[(0, x)]) (hx : a.eval x = .agg cells) (hc : cells.size = n)
    (h : K (a.put o.dst (.slice (some ⟨W.heap.size, 0, none⟩) 1 1)) (W.alloc (.cells cells e))) : o.wp P a W K Q := by
  subst hc
  have hr := run_buildSlice1 t e i z cells ht hi hz hs hzs h0 hle W
  unfold Oper.wp execOp
  simp only [ho, List.map_toArray, List.map_cons, List.map_nil, hx, Sem.run_bind, hr, Result.andThen_ok, Sem.run_pure]
  exact h
theorem wp_append13 {P : Program} {t : TypeId} {o : Oper} {a : Act} {W W' : World} {K : Act → World → Prop} {Q : Exit → Act → World → Prop} (s x : Operand) (v1 v2 v' : Value) (ho : o.op = .call { callee := .builtin .append, args := #[s, x], argTypes := #[t, t] }) (hty : o.type = t)
    (hs : a.eval s = v1) (hx : a.eval x = v2) (hrun : (Builtin.append_ #[t, t] t #[v1, v2]).run P W = .ok v' W') (h : K (a.put o.dst v') W') : o.wp P a W K Q := by
  unfold Oper.wp execOp
  simp only [ho, hty, resolve, invoke, builtin, Sem.run_bind, Sem.run_pure, Result.andThen_ok, List.map_toArray, List.map_cons, List.map_nil, hs, hx, hrun]
  exact h
end Go.Proofs.YtnlncfjibbdimaaDoor

namespace Go.Proofs.YtnlncfjibbdimaaDoor
open Go.RowKit
set_option linter.unusedSimpArgs false
set_option linter.unusedVariables false
attribute [local go_sem] Oper.semAt_some

section
variable {M : Nat → Prop} {w : World} {B n i j : Nat} {g gr ga : Nat → Nat} {s : Nat → Acc} {R : Nat → Rnd} {F : Nat → Nat → Bool} {pv lv : Nat → Value} {A : Nat → Addr} {Aa Ar : Option Addr} {led : List Cmd} {ov : Value} {br bn ar an : Int}
set_option maxRecDepth 100000 in
set_option maxHeartbeats 12800000 in
theorem deliver_prom (ca cr : Nat) (D : DelIn M w B n g gr ga s R F pv lv A Aa Ar i j led ov) :
    Calls Tryd.prog 68 #[.slice Aa n ca, .slice Ar n cr, .agg ((⟨i, j, false, true, (br, bn), (ar, an), led⟩ : Let).cells ov).toArray] w (DelPost M B n g gr ga s R F pv ⟨i, j, false, true, (br, bn), (ar, an), led⟩ w) := by
  obtain ⟨A0, n0, c0, rfl⟩ := D.form
  obtain ⟨bR, oR, rfl, hbR, hMR, hcR⟩ := D.rs.at_ D.hi
  have hPi := hcR i D.hi
  have hi1 : (i : Int) < n := by have := D.hi; omega
  have hj1 : (j : Int) < n := by have := D.hj; omega
  have hnR : ¬ bR = w.heap.size := by omega
  have hnR2 : ¬ bR = w.heap.size + 1 := by omega
  simp only [Let.cells]
  refine callsIn_wide.1 (callsIn_of_wp_marks (n := 5) Tryd.func68 rfl trivial (wpIn_wide.2 ?_) rfl)
  simp only [Tryd.ntmps68, List.size_toArray, List.length_cons, List.length_nil, Nat.reduceAdd, Nat.reduceSub, Array.replicate_succ, Array.replicate_zero, List.push_toArray, List.append_toArray, List.nil_append, List.cons_append]
  have HD := Lib.hid D
  clear D hcR
  go_upto_region 2 with (fail)
  have bA : Below w.heap.size w ((w.alloc (.cells #[.int .i64 i, .int .i64 j, .bool false, .bool true, .int .i64 br, .int .i64 bn, .int .i64 ar, .int .i64 an, .slice A0 n0 c0] 131)).alloc (.cells #[.pointer (some ⟨gr i, 0, none⟩)] 97)) := ((Below.refl _ _).alloc (Nat.le_refl _) _).alloc (by simp) _
  refine wp_letter (fun W => DelIn M W B n g gr ga s R F pv lv A Aa (some ⟨bR, oR, none⟩) i j led (.slice A0 n0 c0) ∧ Blk W w.heap.size 131 #[.int .i64 i, .int .i64 j, .bool false, .bool true, .int .i64 br, .int .i64 bn, .int .i64 ar, .int .i64 an, .slice A0 n0 c0] ∧ Blk W (w.heap.size + 1) 97 #[.pointer (some ⟨gr i, 0, none⟩)] ∧ Below w.heap.size w W)
    ⟨HD.out.below bA, (Blk.new _ _ _).alloc _, by have := Blk.new (w.alloc (.cells #[.int .i64 i, .int .i64 j, .bool false, .bool true, .int .i64 br, .int .i64 bn, .int .i64 ar, .int .i64 an, .slice A0 n0 c0] 131)) 97 #[.pointer (some ⟨gr i, 0, none⟩)]; rwa [World.size_alloc] at this, bA⟩ ?_
  clear bA hPi hnR hnR2 hbR hMR hi1
  rintro W ⟨D1, X1, Y1, b1⟩
  obtain ⟨x, hx⟩ : ∃ x, x = w.heap.size := ⟨_, rfl⟩
  obtain ⟨y, hy⟩ : ∃ y, y = w.heap.size + 1 := ⟨_, rfl⟩
  rw [← hx] at X1
  rw [← hy] at Y1
  rw [← hy, ← hx]
  have cX := X1.cell
  have cY := Y1.cell
  have HP := Lib.hid (And.intro D1 (And.intro X1 (And.intro Y1 (And.intro b1 (And.intro hx hy)))))
  clear D1 X1 Y1 b1 hx hy
  have HY := Lib.hid (show ∀ w2, Fr W.heap.size (NetO n g gr ga) W w2 → w2.cell? ⟨y, 0, none⟩ = some (.pointer (some ⟨gr i, 0, none⟩)) from fun w2 f => ((HP.out.2.2.1.fr f HP.out.2.2.1.lt (fun h => by have := (HD.out.net.lt y (HD.out.net.om y h)).2; have := HP.out.2.2.2.2.2; omega)).cell 0))
  by_cases hf : (R i).stage = 1 ∧ (br = (R i).br ∧ bn = (R i).bn) ∧ F i j = false
  · obtain ⟨r', hr⟩ : ∃ r', (R i).promised n (F i) j ar an led = r' := ⟨_, rfl⟩
    by_cases hst : r'.stage = 2
    · have kc := HP.out.1.prom_yes hf hr hst
      have HF := Lib.hid (And.intro hf (And.intro hr (And.intro hst kc)))
      clear hf hr hst kc
      go_upto_region 20 with (first
        | (go_at_call 58
           refine HF.out.2.2.2.mono ?_
           rintro e w2 ⟨rfl, lv', N2, F2, R2, k56⟩
           have cY2 := HY.out w2 F2
           have H2 := Lib.hid (And.intro N2 (And.intro F2 (And.intro R2 k56)))
           clear N2 F2 R2 k56)
        | (go_at_call 56
           refine H2.out.2.2.2.mono ?_
           rintro e w3 ⟨rfl, b3⟩
           have H3 := Lib.hid b3
           clear b3)
        | fail)
      have hMx : ∀ m, M m → m < x := fun m hm => by rw [HP.out.2.2.2.2.1]; exact (HD.out.net.lt m hm).2
      have hOx : ¬ NetO n g gr ga x := fun h => by have := hMx x (HD.out.net.om x h); omega
      have hOy : ¬ NetO n g gr ga y := fun h => by have := hMx y (HD.out.net.om y h); have := HP.out.2.2.2.2.1; have := HP.out.2.2.2.2.2; omega
      have X3 : Blk w3 x 131 #[.int .i64 i, .int .i64 j, .bool false, .bool true, .int .i64 br, .int .i64 bn, .int .i64 ar, .int .i64 an, .slice A0 n0 c0] := (HP.out.2.1.fr H2.out.2.1 HP.out.2.1.lt hOx).below H3.out (Nat.lt_of_lt_of_le HP.out.2.1.lt H2.out.2.1.size)
      have Y3 : Blk w3 y 97 #[.pointer (some ⟨gr i, 0, none⟩)] := (HP.out.2.2.1.fr H2.out.2.1 HP.out.2.2.1.lt hOy).below H3.out (Nat.lt_of_lt_of_le HP.out.2.2.1.lt H2.out.2.1.size)
      have R3 := H2.out.2.2.1.below H3.out
      have N3 := H2.out.1.below H3.out
      have F3 : Fr w.heap.size (NetO n g gr ga) w w3 := ((Fr.of_below HP.out.2.2.2.1 _).trans (H2.out.2.1.mono HP.out.2.2.2.1.size (fun _ _ h => h))).trans (Fr.of_below (H3.out.mono (Nat.le_trans HP.out.2.2.2.1.size H2.out.2.1.size)) _)
      have H4 := Lib.hid (And.intro X3 (And.intro Y3 (And.intro R3 (And.intro N3 (And.intro F3 hMx)))))
      clear X3 Y3 R3 N3 F3 hMx hOx hOy cX cY
      refine wp_letter (fun W => Below w3.heap.size w3 W ∧ Boxed W (w3.heap.size + 1) 126 (.slice (some ⟨w3.heap.size, 0, none⟩) 0 0) ∧ W.ownsRow w3.heap.size 131 9 (.slice (some ⟨w3.heap.size, 0, none⟩) 0 0) 0 [])
        ⟨((Below.refl _ _).alloc (Nat.le_refl _) _).alloc (by simp) _, by have := Boxed.new (w3.alloc (.cells #[] 131)) 126 (.slice (some ⟨w3.heap.size, 0, none⟩) 0 0); rw [World.size_alloc] at this; exact this, (World.ownsRow_made w3 #[] 0 (Nat.le_refl _) (by simp [maxLen]) (by simp)).alloc _⟩ ?_
      rintro W6 ⟨b6, hX6, hrow6⟩
      obtain ⟨N5, hN5⟩ : ∃ N5, N5 = w3.heap.size := ⟨_, rfl⟩
      obtain ⟨Bx, hBx⟩ : ∃ Bx, Bx = w3.heap.size + 1 := ⟨_, rfl⟩
      rw [← hBx, ← hN5] at hX6
      rw [← hN5] at hrow6
      rw [← hBx, ← hN5]
      obtain ⟨zs, hzs⟩ : ∃ zs, zs = missL 2 (promF n (F i) j) n := ⟨_, rfl⟩
      have hn16 : n ≤ 16 := H4.out.2.2.1.sz
      have hzl : zs.length ≤ 16 := by rw [hzs]; exact Nat.le_trans (missL_len _ _ _) hn16
      have k129 := missing_any W6 _ _ _ _ _ _ _ _ ((H4.out.2.2.1.below b6).at_)
      rw [HF.out.2.2.1, ← hzs] at k129
      have hNB : N5 ≤ W6.heap.size := by rw [hN5]; exact b6.size
      have cY6 : W6.cell? ⟨y, 0, none⟩ = some (.pointer (some ⟨gr i, 0, none⟩)) := (H4.out.2.1.below b6 H4.out.2.1.lt).cell 0
      have H6 := Lib.hid (And.intro b6 (And.intro hX6 (And.intro hrow6 (And.intro hN5 (And.intro hBx (And.intro hzs k129))))))
      clear b6 hX6 hrow6 hN5 hBx hzs k129
      go_wp2_with (first
        | (go_at_call 129
           refine H6.out.2.2.2.2.2.2.mono ?_
           rintro e w7 ⟨Bs, b, sv, rfl, hBs1, hBs2, hb1, hb2, hc7, hI7, b7⟩)
        | fail)
      have hX7 : Boxed w7 Bx 126 (.slice (some ⟨N5, 0, none⟩) 0 0) := (b7.block Bx H6.out.2.1.lt).trans H6.out.2.1
      have hrow7 := ownsRow_frS H6.out.2.2.1 (Fr.of_below b7 (fun _ => False)) (Nat.le_refl _) (fun _ _ h => h)
      have hN7 : N5 ≤ w7.heap.size := Nat.le_trans hNB b7.size
      have hBxN : N5 ≤ Bx := by have := H6.out.2.2.2.1; have := H6.out.2.2.2.2.1; omega
      have hbB : b ≠ Bx := by have := H6.out.2.1.lt; omega
      have b37 : Below w3.heap.size w3 w7 := H6.out.1.trans (b7.mono H6.out.1.size)
      have hb5 : ∀ q, (Value.slice (some ⟨N5, 0, none⟩) 0 0).ownBlock = some q → q ≠ b := fun q hq => by simp [Value.ownBlock] at hq; have := H6.out.2.1.lt; have := H6.out.2.2.2.1; have := H6.out.2.2.2.2.1; omega
      have H7 := Lib.hid (And.intro b37 (OutAt.nil_ (M := M) (i := i) (br := r'.br) (bn := r'.bn) (led := r'.led) hX7 hrow7 hb5))
      clear b7 hX7 hrow7 b37 hb5
      refine (wpIn_wide (n := 5)).1 ?_
      refine wpIn_rangeFunc_ownG (F := Fence.wide) (n := 5) rfl (by omega) (gf := 170) (lb := #[.pointer (some ⟨Bs, 0, none⟩)]) rfl trivial (enters_of Tryd.func170 (by kernel_rfl) rfl)
        (vals_stops Fence.wide 4 trivial rfl (by omega) Bs b sv zs (by omega) w7 hBs2 hb2 hc7 hI7) (fun h k => Kb.tr h k) (kb_b hb2) (Below.refl _ _) (fun _ => rfl)
        (fun (pre : List Int) W => OutAt M N5 Bx b i r'.br r'.bn r'.led pre W ∧ Below N5 w7 W ∧ w7.heap.size ≤ W.heap.size)
        (fun _ _ _ => False)
        (OwnFrom.and (Own.from (outAt_own M N5 Bx b i r'.br r'.bn r'.led) _) (OwnFrom.and (ownFrom_below hN7 hN7) (fun _ X Y row hs hg _ => Nat.le_trans hs hg.size)))
        (fun _ _ _ _ _ hs _ _ => hs)
        ⟨H7.out.2, Below.refl _ _, Nat.le_refl _⟩
        ?a1 ?assign ?body ?done ?stop
      case assign =>
        intro l t W K hK
        gi_wp2
        exact hK
      case body =>
          rintro l pre t W8 ⟨⟨v, ps, hv, hrow, hvb, hm, hl⟩, hB, hsz⟩ hlt
          have hWN : N5 ≤ W8.heap.size := Nat.le_trans hN7 hsz
          have hbW : b < W8.heap.size := Nat.lt_of_lt_of_le hb2 hsz
          have hb38 : Below w3.heap.size w3 W8 := H7.out.1.trans (by rw [← H6.out.2.2.2.1]; exact hB)
          have X8 := H4.out.1.below hb38 H4.out.1.lt
          have Y8 := H4.out.2.1.below hb38 H4.out.2.1.lt
          have R8 := H4.out.2.2.1.below hb38
          have hxN : x < N5 := by rw [H6.out.2.2.2.1]; exact H4.out.1.lt
          have hyN : y < N5 := by rw [H6.out.2.2.2.1]; exact H4.out.2.1.lt
          have htl : r'.tells = r'.led := by unfold Rnd.tells; rw [HF.out.2.2.1]; rfl
          have HB := Lib.hid (show ∀ u, (Below N5 W8 u ∧ u.cell? ⟨Bx, 0, none⟩ = some v) → u.cell? ⟨Bx, 0, none⟩ = some v ∧ u.cell? ⟨x, 0, none⟩ = some (.int .i64 i) ∧ u.cell? ⟨y, 0, none⟩ = some (.pointer (some ⟨gr i, 0, none⟩)) from
            fun u hu => ⟨hu.2, (X8.below hu.1 hxN).cell 0, (Y8.below hu.1 hyN).cell 0⟩)
          have HS := Lib.hid (show ∀ u, Below W8.heap.size W8 u → Below N5 W8 u ∧ u.cell? ⟨Bx, 0, none⟩ = some v from fun u hu => ⟨hu.mono hWN, Boxed.cell ((hu.block Bx hv.lt).trans hv)⟩)
          have HR := Lib.hid (And.intro R8 htl)
          have HM := Lib.hid (show ∀ u : World, W8.heap.size ≤ u.heap.size → ∀ k, (M k ∨ k = Bx ∨ v.ownBlock = some k) → k < u.heap.size from fun u hu k hk => by
            rcases hk with hk | hk | hk
            · have := H4.out.2.2.2.2.2 k hk; omega
            · have := hv.lt; omega
            · have := (hrow.lt k hk).2; omega)
          clear X8 Y8 R8 htl
          have hd0 : Below W8.heap.size W8 W8.drew := (Below.refl _ _).drew
          refine wpIn_block ?_
          refine wpIn_region_L (S := fun u => Below N5 W8 u ∧ u.cell? ⟨Bx, 0, none⟩ = some v) 11 (by kernel_rfl) (by kernel_rfl) (fun ⟨_, _, h⟩ => h) (HS.out _ hd0) (fun hS0 => ?_)
          refine anyL_take (i := 0) (v := v) rfl (by kernel_rfl) (by decide) (by kernel_rfl) (by kernel_rfl) (by kernel_rfl) (fun _ _ _ h => h) (Or.inl ⟨by kernel_rfl, fun w' hSw => ?_⟩) hS0 ?_
          · (have hcv := (HB.out w' hSw).1; go_simp)
          try simp only [List.getElem_toArray, List.getElem_cons_succ, List.getElem_cons_zero, Act.put, List.setIfInBounds_toArray, List.set_cons_zero, List.set_cons_succ]
          refine anyL_take (i := 1) (v := .pointer (some ⟨x, 0, none⟩)) rfl (by kernel_rfl) (by decide) (by kernel_rfl) (by kernel_rfl) (by kernel_rfl) (fun _ _ _ h => h) (Or.inl ⟨by kernel_rfl, fun w' hSw => ?_⟩) hS0 ?_
          · go_simp
          try simp only [List.getElem_toArray, List.getElem_cons_succ, List.getElem_cons_zero, Act.put, List.setIfInBounds_toArray, List.set_cons_zero, List.set_cons_succ]
          refine anyL_take (i := 2) (v := .int .i64 i) rfl (by kernel_rfl) (by decide) (by kernel_rfl) (by kernel_rfl) (by kernel_rfl) (fun _ _ _ h => h) (Or.inl ⟨by kernel_rfl, fun w' hSw => ?_⟩) hS0 ?_
          · (have hcv := (HB.out w' hSw).2.1; go_simp)
          try simp only [List.getElem_toArray, List.getElem_cons_succ, List.getElem_cons_zero, Act.put, List.setIfInBounds_toArray, List.set_cons_zero, List.set_cons_succ]
          refine anyL_take (i := 3) (v := .int .i64 t) rfl (by kernel_rfl) (by decide) (by kernel_rfl) (by kernel_rfl) (by kernel_rfl) (fun _ _ _ h => h) (Or.inl ⟨by kernel_rfl, fun w' hSw => ?_⟩) hS0 ?_
          · go_simp
          try simp only [List.getElem_toArray, List.getElem_cons_succ, List.getElem_cons_zero, Act.put, List.setIfInBounds_toArray, List.set_cons_zero, List.set_cons_succ]
          refine anyL_take (i := 4) (v := .pointer (some ⟨gr i, 0, none⟩)) rfl (by kernel_rfl) (by decide) (by kernel_rfl) (by kernel_rfl) (by kernel_rfl) (fun _ _ _ h => h) (Or.inl ⟨by kernel_rfl, fun w' hSw => ?_⟩) hS0 ?_
          · (have hcv := (HB.out w' hSw).2.2; go_simp)
          try simp only [List.getElem_toArray, List.getElem_cons_succ, List.getElem_cons_zero, Act.put, List.setIfInBounds_toArray, List.set_cons_zero, List.set_cons_succ]
          refine anyL_take (i := 6) (v := .pointer (some ⟨gr i, 0, none⟩)) rfl (by kernel_rfl) (by decide) (by kernel_rfl) (by kernel_rfl) (by kernel_rfl) (fun _ _ _ h => h) (Or.inl ⟨by kernel_rfl, fun w' hSw => ?_⟩) hS0 ?_
          · (have hcv := (HB.out w' hSw).2.2; go_simp)
          try simp only [List.getElem_toArray, List.getElem_cons_succ, List.getElem_cons_zero, Act.put, List.setIfInBounds_toArray, List.set_cons_zero, List.set_cons_succ]
          refine anyL_ready (rs := [5]) (by kernel_rfl) (by simp) ?_
          refine AllL.cons rfl (by decide) (fun K hK => ?_) AllL.nil
          go_simp
          refine (ballot127 _ _ _ _ _ _ _ _ _ (HR.out.1.below hd0).at_).mono ?_
          rintro e u1 ⟨rfl, d1⟩
          have hb1 := hd0.trans (d1.mono hd0.size)
          have hS1 := HS.out u1 hb1
          refine Shut.out hK _ _ hS1 (fun _ => ?_)
          clear hK K
          try simp only [List.getElem_toArray, List.getElem_cons_succ, List.getElem_cons_zero, Act.put, List.setIfInBounds_toArray, List.set_cons_zero, List.set_cons_succ]
          refine anyL_ready (rs := [7]) (by kernel_rfl) (by simp) ?_
          refine AllL.cons rfl (by decide) (fun K hK => ?_) AllL.nil
          go_simp
          refine (HR.out.1.below hb1).ledger.mono ?_
          rintro e u2 ⟨l2, rfl, o2, d2⟩
          have hb2 := hb1.trans (d2.mono hb1.size)
          have hS2 := HS.out u2 hb2
          have x2 : Lf (fun k => M k ∨ k = Bx ∨ v.ownBlock = some k) u2 l2 r'.led := Lf.own13 (by rw [← HR.out.2]; exact o2) (Nat.le_refl _) (HM.out u1 hb1.size)
          obtain ⟨A2, c2, hv2, _⟩ := o2.at_.form
          obtain ⟨n2, hn2⟩ : ∃ n2, n2 = r'.tells.length := ⟨_, rfl⟩
          rw [← hn2] at hv2
          subst hv2
          have H2 := Lib.hid (And.intro x2 hn2)
          clear o2 x2 hn2
          refine Shut.out hK _ _ hS2 (fun _ => ?_)
          clear hK K
          try simp only [List.getElem_toArray, List.getElem_cons_succ, List.getElem_cons_zero, Act.put, List.setIfInBounds_toArray, List.set_cons_zero, List.set_cons_succ]
          refine anyL_take (i := 8) (v := .agg (tellc i r'.br r'.bn t (.slice A2 n2 c2)).toArray) rfl (by kernel_rfl) (by decide) (by kernel_rfl) (by kernel_rfl) (by kernel_rfl) (fun _ _ _ h => h) (Or.inl ⟨by kernel_rfl, fun w' hSw => ?_⟩) hS2 ?_
          · (go_simp; rfl)
          try simp only [List.getElem_toArray, List.getElem_cons_succ, List.getElem_cons_zero, Act.put, List.setIfInBounds_toArray, List.set_cons_zero, List.set_cons_succ]
          obtain ⟨i1, z1, hi1, hz11, hz12, hz13, hz14⟩ := let_info'
          refine anyL_ready (rs := [9]) (by kernel_rfl) (by simp) ?_
          refine AllL.cons rfl (by decide) (fun K hK => ?_) AllL.nil
          have hb3 := hb2.alloc hb2.size (.cells (tellc i r'.br r'.bn t (.slice A2 n2 c2)).toArray 131)
          have hS3 := HS.out _ hb3
          rw [if_pos (by kernel_rfl)]
          refine wp_buildSlice13 (n := 9) Tryd.underlying126 hi1 hz11 hz12 hz14 (by decide) (by decide) (.tmp 95) (tellc i r'.br r'.bn t (.slice A2 n2 c2)).toArray rfl rfl rfl ?_
          refine Shut.out hK _ _ hS3 (fun _ => ?_)
          clear hK K
          try simp only [List.getElem_toArray, List.getElem_cons_succ, List.getElem_cons_zero, Act.put, List.setIfInBounds_toArray, List.set_cons_zero, List.set_cons_succ]
          have hv2 : Boxed u2 Bx 126 v := (hb2.block Bx hv.lt).trans hv
          have hrow2 := ownsRow_frS hrow (Fr.of_below hb2 (fun _ => False)) (Nat.le_refl _) (fun _ _ h => h)
          obtain ⟨v', w1, hrun, hown, hgrow, hat⟩ := run_append_any (P := Tryd.prog) (u2.alloc (.cells (tellc i r'.br r'.bn t (.slice A2 n2 c2)).toArray 131)) N5 126 126 131 i1 z1 9 80 Tryd.underlying126 hi1 hz11 hz12 hz13 hz14 (by omega) v pre.length (tellp i r'.br r'.bn ps) (hrow2.alloc _) 0 (u2.heap.size + 1) (some ⟨u2.heap.size, 0, none⟩) 1 1 (tellc i r'.br r'.bn t (.slice A2 n2 c2)) ⟨rfl, fun _ => ⟨_, rfl, Nat.zero_le _, Nat.lt_succ_self _, fun k u hu => by
              rw [Addr.add_mid]
              exact (Blk.new u2 131 (tellc i r'.br r'.bn t (.slice A2 n2 c2)).toArray).range (cs := tellc i r'.br r'.bn t (.slice A2 n2 c2)) k u hu⟩⟩ (by simp [tellc, Value.oneCell']) (by simp only [maxLen]; omega) (by omega) (by have := hb2.size; simp; omega)
          obtain ⟨g', cap', rfl⟩ := ownsRow_succ hown
          obtain ⟨q1, q2, q3, q4, q5, q6⟩ := OutAt.step hv2 hrow2 hvb hm (fun p hp => (hl p hp).below hb2) (Nat.lt_of_lt_of_le hbW hb2.size) hbB (Nat.le_trans hWN hb2.size) hBxN H2.out.1 hown hgrow hat
          have hS4 : Below N5 W8 w1 ∧ w1.cell? ⟨Bx, 0, none⟩ = some v := ⟨(hb2.mono hWN).trans q2, q1.cell⟩
          refine anyL_ready (rs := [10]) (by kernel_rfl) (by simp) ?_
          refine AllL.cons rfl (by decide) (fun K hK => ?_) AllL.nil
          rw [if_pos (by kernel_rfl)]
          refine wp_append13 (.tmp 87) (.tmp 96) _ _ _ rfl rfl rfl rfl hrun ?_
          refine Shut.out hK _ _ hS4 (fun _ => ?_)
          clear hK K
          try simp only [List.getElem_toArray, List.getElem_cons_succ, List.getElem_cons_zero, Act.put, List.setIfInBounds_toArray, List.set_cons_zero, List.set_cons_succ]
          have hc1 := q1.cell
          have hf1 := q1.frozen
          refine anyL_ready (rs := [11]) (by kernel_rfl) (by simp) ?_
          refine AllL.last rfl (fun K hK => ?_)
          go_simp
          refine Shut.out hK _ _ ?_
          clear hK K
          try simp only [List.getElem_toArray, List.getElem_cons_succ, List.getElem_cons_zero, Act.put, List.setIfInBounds_toArray, List.set_cons_zero, List.set_cons_succ]
          refine anyL_done (by kernel_rfl) ?_ _
          exact ⟨(Below.keeps hb2 _).trans (q4.from _), (Below.kb hb2 hbW).tr q6, q3, ((hB.trans (hb2.mono hWN)).trans q5), Nat.le_trans hsz (Nat.le_trans hb2.size q5.size)⟩
      case done =>
        rintro D ys W8 hD rfl ⟨hO, hB, hsz⟩ hK
        obtain ⟨v, ps, hv, hrow, hl, hm⟩ := hO.lets (lo := w.heap.size) (fun t ht => (missL_rng (by rw [H6.out.2.2.2.2.2.1] at ht; exact ht)).1) (by rw [H6.out.2.2.2.1]; exact H4.out.2.2.2.2.1.size)
        have hc := hv.cell
        have H8 := Lib.hid (And.intro hB (And.intro hsz (And.intro hrow (And.intro hK (And.intro hl hm)))))
        clear hB hsz hrow hK hO hl hm
        go_wp2_with (fail)
        have hK := H8.out.2.2.2.1
        have h38 : Below w3.heap.size w3 W8 := H7.out.1.trans (by rw [← H6.out.2.2.2.1]; exact H8.out.1)
        have hDl : w3.heap.size ≤ D := Nat.le_trans H7.out.1.size hD
        have h39 := shut_below (N := w3.heap.size) (Nat.le_refl _) hDl hK h38 (o' := .deferred none)
        have hrow9 := ownsRow_putObj H8.out.2.2.1 (.deferred none) hK rfl
        refine ⟨by simp, .inl ⟨_, _, rfl, run_takeDeferred hK, ?_⟩⟩
        refine ⟨v, results_tmp (t := 6) rfl _ _ _, v, ps, s, upd R i r', upd F i (promF n (F i) j), lv', rfl, ⟨hrow9, fun p hp => ?_⟩, H4.out.2.2.2.1.below h39, H4.out.2.2.2.2.1.trans (Fr.of_below (h39.mono H4.out.2.2.2.2.1.size) _), .inr (.inr (.inr ⟨rfl, rfl, rfl, .inr ⟨HF.out.1.1, HF.out.1.2.1, HF.out.1.2.2, by rw [HF.out.2.1], rfl, .inr ⟨by rw [upd_same]; exact HF.out.2.2.1, ?_⟩⟩⟩))⟩
        · exact (H8.out.2.2.2.2.1 p hp).kept (grownBy_putObj' W8 D (.deferred none)) (fun r hr => by cases hr; exact ⟨_, hK, rfl⟩)
        · rw [upd_same, upd_same, H8.out.2.2.2.2.2, H6.out.2.2.2.2.2.1]
      case stop =>
        rintro D c pre W8 _ _ h _
        exact h.elim
    · obtain ⟨st, hse⟩ : ∃ st, r'.stage = st := ⟨_, rfl⟩
      have kc := HP.out.1.prom_yes hf hr hse
      rw [hse] at hst
      have HF := Lib.hid (And.intro hf (And.intro hr kc))
      clear hf hr hse kc
      go_wp2_with (first
        | (go_at_call 58
           refine HF.out.2.2.mono ?_
           rintro e w2 ⟨rfl, lv', N2, F2, R2, k56⟩
           have cY2 := HY.out w2 F2
           have H2 := Lib.hid (And.intro N2 (And.intro F2 (And.intro R2 k56)))
           clear N2 F2 R2 k56)
        | (go_at_call 56
           refine H2.out.2.2.2.mono ?_
           rintro e w3 ⟨rfl, b3⟩
           have H3 := Lib.hid b3
           clear b3)
        | fail)
      refine bodyM_ret (v := .slice none 0 0) rfl (results_tmp (t := 6) rfl _ _ _) ?_
      exact ⟨_, [], s, upd R i r', upd F i (promF n (F i) j), lv', rfl, LetsAt.nil_ _ _ _, H2.out.1.below H3.out, ((Fr.of_below HP.out.2.2.2.1 _).trans (H2.out.2.1.mono HP.out.2.2.2.1.size (fun _ _ h => h))).trans (Fr.of_below (H3.out.mono (Nat.le_trans HP.out.2.2.2.1.size H2.out.2.1.size)) _),
        .inr (.inr (.inr ⟨rfl, rfl, rfl, .inr ⟨HF.out.1.1, HF.out.1.2.1, HF.out.1.2.2, by rw [HF.out.2.1], rfl, .inl rfl⟩⟩))⟩
  · have kc := HP.out.1.prom_no (ar := ar) (an := an) hf
    have HF := Lib.hid kc
    clear hf kc
    go_wp2_with (first
      | (go_at_call 58
         refine HF.out.mono ?_
         rintro e w2 ⟨rfl, b2⟩
         have H2 := Lib.hid b2
         clear b2)
      | fail)
    refine bodyM_ret (v := .slice none 0 0) rfl (results_tmp (t := 6) rfl _ _ _) ?_
    exact ⟨_, [], s, R, F, lv, rfl, LetsAt.nil_ _ _ _, HP.out.1.net.below H2.out, (Fr.of_below HP.out.2.2.2.1 _).trans (Fr.of_below (H2.out.mono HP.out.2.2.2.1.size) _), .inr (.inr (.inr ⟨rfl, rfl, rfl, .inl ⟨rfl, rfl, rfl⟩⟩))⟩
end
end Go.Proofs.YtnlncfjibbdimaaDoor
