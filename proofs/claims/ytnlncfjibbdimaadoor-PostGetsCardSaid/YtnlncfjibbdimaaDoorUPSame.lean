/-
  The document's Same of two messages.
-/
import Derived.Test.YtnlncfjibbdimaaDoorUPWire
import Derived.Test.YtnlncfjibbdimaaDoorUSameL
import Derived.Test.YtnlncfjibbdimaaDoorUReadX
namespace Go.Proofs.YtnlncfjibbdimaaDoor
open Go.RowKit
set_option linter.unusedSimpArgs false
set_option linter.unusedVariables false
theorem frame75 (a : Act) (hs : a.tmps.size = 75) (hd : a.defers = []) : ∃ φ : Nat → Value, a = { tmps := (φ 0 :: φ 1 :: φ 2 :: φ 3 :: φ 4 :: φ 5 :: φ 6 :: φ 7 :: φ 8 :: φ 9 :: φ 10 :: φ 11 :: φ 12 :: φ 13 :: φ 14 :: φ 15 :: φ 16 :: φ 17 :: φ 18 :: φ 19 :: φ 20 :: φ 21 :: φ 22 :: φ 23 :: φ 24 :: φ 25 :: φ 26 :: φ 27 :: φ 28 :: φ 29 :: φ 30 :: φ 31 :: φ 32 :: φ 33 :: φ 34 :: φ 35 :: φ 36 :: φ 37 :: φ 38 :: φ 39 :: φ 40 :: φ 41 :: φ 42 :: φ 43 :: φ 44 :: φ 45 :: φ 46 :: φ 47 :: φ 48 :: φ 49 :: φ 50 :: φ 51 :: φ 52 :: φ 53 :: φ 54 :: φ 55 :: φ 56 :: φ 57 :: φ 58 :: φ 59 :: φ 60 :: φ 61 :: φ 62 :: φ 63 :: φ 64 :: φ 65 :: φ 66 :: φ 67 :: φ 68 :: φ 69 :: φ 70 :: φ 71 :: φ 72 :: φ 73 :: φ 74 :: []).toArray, defers := [] } ∧ ∀ i, a.tmps.getD i undef = φ i := by
  obtain ⟨t, d⟩ := a
  simp only at hs hd
  subst hd
  refine ⟨fun i => t.getD i undef, ?_, fun i => rfl⟩
  have e : t = ((List.range 75).map fun i => t.getD i undef).toArray := by
    apply Array.ext
    · simp [hs]
    · intro i h1 h2
      simp [h1]
  have e2 : ((List.range 75).map fun i => t.getD i undef).toArray = (t.getD 0 undef :: t.getD 1 undef :: t.getD 2 undef :: t.getD 3 undef :: t.getD 4 undef :: t.getD 5 undef :: t.getD 6 undef :: t.getD 7 undef :: t.getD 8 undef :: t.getD 9 undef :: t.getD 10 undef :: t.getD 11 undef :: t.getD 12 undef :: t.getD 13 undef :: t.getD 14 undef :: t.getD 15 undef :: t.getD 16 undef :: t.getD 17 undef :: t.getD 18 undef :: t.getD 19 undef :: t.getD 20 undef :: t.getD 21 undef :: t.getD 22 undef :: t.getD 23 undef :: t.getD 24 undef :: t.getD 25 undef :: t.getD 26 undef :: t.getD 27 undef :: t.getD 28 undef :: t.getD 29 undef :: t.getD 30 undef :: t.getD 31 undef :: t.getD 32 undef :: t.getD 33 undef :: t.getD 34 undef :: t.getD 35 undef :: t.getD 36 undef :: t.getD 37 undef :: t.getD 38 undef :: t.getD 39 undef :: t.getD 40 undef :: t.getD 41 undef :: t.getD 42 undef :: t.getD 43 undef :: t.getD 44 undef :: t.getD 45 undef :: t.getD 46 undef :: t.getD 47 undef :: t.getD 48 undef :: t.getD 49 undef :: t.getD 50 undef :: t.getD 51 undef :: t.getD 52 undef :: t.getD 53 undef :: t.getD 54 undef :: t.getD 55 undef :: t.getD 56 undef :: t.getD 57 undef :: t.getD 58 undef :: t.getD 59 undef :: t.getD 60 undef :: t.getD 61 undef :: t.getD 62 undef :: t.getD 63 undef :: t.getD 64 undef :: t.getD 65 undef :: t.getD 66 undef :: t.getD 67 undef :: t.getD 68 undef :: t.getD 69 undef :: t.getD 70 undef :: t.getD 71 undef :: t.getD 72 undef :: t.getD 73 undef :: t.getD 74 undef :: []).toArray := rfl
  rw [← e2, ← e]
theorem msg_ext {a b : Msg} : a = b ↔ a.kind = b.kind ∧ a.frm = b.frm ∧ a.to_ = b.to_ ∧ (a.tn = b.tn ∧ a.tb = b.tb ∧ a.ts = b.ts) ∧ (a.br = b.br ∧ a.bn = b.bn) ∧ (a.ar = b.ar ∧ a.an = b.an) ∧ (a.xn = b.xn ∧ a.xb = b.xb ∧ a.xs = b.xs) ∧ a.ok = b.ok ∧ a.frame = b.frame ∧ a.led = b.led := by
  obtain ⟨_, _, _, _, _, _, _, _, _, _, _, _, _, _, _, _⟩ := a
  obtain ⟨_, _, _, _, _, _, _, _, _, _, _, _, _, _, _, _⟩ := b
  simp only [Msg.mk.injEq]
  constructor
  · rintro ⟨h0, h1, h2, h3, h4, h5, h6, h7, h8, h9, h10, h11, h12, h13, h14, h15⟩
    exact ⟨h0, h1, h2, ⟨h3, h4, h5⟩, ⟨h6, h7⟩, ⟨h8, h9⟩, ⟨h11, h12, h13⟩, h14, h15, h10⟩
  · rintro ⟨h0, h1, h2, ⟨h3, h4, h5⟩, ⟨h6, h7⟩, ⟨h8, h9⟩, ⟨h11, h12, h13⟩, h14, h15, h10⟩
    exact ⟨h0, h1, h2, h3, h4, h5, h6, h7, h8, h9, h10, h11, h12, h13, h14, h15⟩
set_option maxRecDepth 100000 in
set_option maxHeartbeats 8000000 in
theorem psame_any (a b : Msg) (w : World) (lo1 hi1 lo2 hi2 : Nat) (lv1 fv1 lv2 fv2 : Value) (ha : MsgAt w lo1 hi1 lv1 fv1 a) (hb : MsgAt w lo2 hi2 lv2 fv2 b) :
    Calls Tryd.prog 78 #[.agg (a.cells lv1 fv1).toArray, .agg (b.cells lv2 fv2).toArray] w (YesNo (tf (a = b)) w) := by
  obtain ⟨lAa, lca, fAa, fca, rfl, rfl⟩ := ha.form
  obtain ⟨lAb, lcb, fAb, fcb, rfl, rfl⟩ := hb.form
  obtain ⟨nla, hnla⟩ : ∃ n, n = a.led.length := ⟨_, rfl⟩
  obtain ⟨nlb, hnlb⟩ : ∃ n, n = b.led.length := ⟨_, rfl⟩
  obtain ⟨nfa, hnfa⟩ : ∃ n, n = a.frame.length := ⟨_, rfl⟩
  obtain ⟨nfb, hnfb⟩ : ∃ n, n = b.frame.length := ⟨_, rfl⟩
  simp only [Msg.cells]
  rw [← hnla, ← hnlb, ← hnfa, ← hnfb]
  have HN := Lib.hid (And.intro hnla (And.intro hnlb (And.intro hnfa hnfb)))
  obtain ⟨q3, hq3⟩ : ∃ x, x = eq3 a.tn a.tb a.ts b.tn b.tb b.ts := ⟨_, rfl⟩
  obtain ⟨q6, hq6⟩ : ∃ x, x = eq3 a.xn a.xb a.xs b.xn b.xb b.xs := ⟨_, rfl⟩
  obtain ⟨q8, hq8⟩ : ∃ x, x = decide (a.frame = b.frame) := ⟨_, rfl⟩
  obtain ⟨q9, hq9⟩ : ∃ x, x = tf (a.led = b.led) := ⟨_, rfl⟩
  have e3 := fun w => eq74 a.tn a.tb a.ts b.tn b.tb b.ts w
  have e6 := fun w => eq74 a.xn a.xb a.xs b.xn b.xb b.xs w
  rw [← hq3] at e3
  rw [← hq6] at e6
  have e4 := eqb23 a.br a.bn b.br b.bn
  have e5 := eqb23 a.ar a.an b.ar b.an
  have HQ := Lib.hid (And.intro hq3 (And.intro hq6 (And.intro hq8 hq9)))
  have H0 := Lib.hid (And.intro ha hb)
  obtain ⟨sa, hsa⟩ : ∃ s, s = textOf a.frame := ⟨_, rfl⟩
  obtain ⟨sb, hsb⟩ : ∃ s, s = textOf b.frame := ⟨_, rfl⟩
  have hs8 : (sa.toList == sb.toList) = q8 := by
    obtain ⟨_, _, _, _, _, _, _, h256a, _⟩ := ha.frm
    obtain ⟨_, _, _, _, _, _, _, h256b, _⟩ := hb.frm
    rw [hsa, hsb, hq8]
    exact textOf_eq h256a h256b
  have HS := Lib.hid (And.intro hsa hsb)
  clear hnla hnlb hnfa hnfb hq3 hq6 hq8 hq9 ha hb hsa hsb
  go_enter Tryd.func78, Tryd.ntmps78
  go_upto_region 1 with (fail)
  refine wp_letter (fun W => Below w.heap.size w W ∧ Blk W w.heap.size 143 #[.int .i64 a.kind, .int .i64 a.frm, .int .i64 a.to_, .int .i64 a.tn, .int .i64 a.tb, .int .i64 a.ts, .int .i64 a.br, .int .i64 a.bn, .int .i64 a.ar, .int .i64 a.an, .slice lAa nla lca, .int .i64 a.xn, .int .i64 a.xb, .int .i64 a.xs, .bool a.ok, .slice fAa nfa fca] ∧ Blk W (w.heap.size + 1) 143 #[.int .i64 b.kind, .int .i64 b.frm, .int .i64 b.to_, .int .i64 b.tn, .int .i64 b.tb, .int .i64 b.ts, .int .i64 b.br, .int .i64 b.bn, .int .i64 b.ar, .int .i64 b.an, .slice lAb nlb lcb, .int .i64 b.xn, .int .i64 b.xb, .int .i64 b.xs, .bool b.ok, .slice fAb nfb fcb])
    ⟨((Below.refl _ _).alloc (Nat.le_refl _) _).alloc (by simp) _, (Blk.new w 143 _).alloc _, Blk.new1 w _ 143 _⟩ ?_
  rintro W ⟨hb, hX, hY⟩
  obtain ⟨x, hx⟩ : ∃ x, x = w.heap.size := ⟨_, rfl⟩
  obtain ⟨y, hy⟩ : ∃ y, y = w.heap.size + 1 := ⟨_, rfl⟩
  rw [← hy] at hY
  rw [← hx] at hX
  rw [← hy, ← hx]
  have HB := Lib.hid hb
  have hg : ∀ d os, Below w.heap.size w (Go.Sort.grow (redrawn W d) os) := fun d os => hb.trans ((below_regrown W d os).mono hb.size)
  have k59 : ∀ d os, Calls Tryd.prog 59 #[.slice lAa nla lca, .slice lAb nlb lcb] (Go.Sort.grow (redrawn W d) os) fun e w' => e = .returned (.bool q9) ∧ Below (Go.Sort.grow (redrawn W d) os).heap.size (Go.Sort.grow (redrawn W d) os) w' := fun d os => by
    have hma := H0.out.1.below (hg d os) H0.out.1.hi_
    have hmb := H0.out.2.below (hg d os) H0.out.2.hi_
    have := same_any (Go.Sort.grow (redrawn W d) os) lo1 hi1 lo2 hi2 _ _ a.led b.led hma.led hmb.led hma.hi_ hmb.hi_
    rw [← HQ.out.2.2.2] at this
    rw [HN.out.1, HN.out.2.1]
    exact this
  have hca : ∀ d os, (convert 84 9 (.slice fAa nfa fca)).run Tryd.prog (Go.Sort.grow (redrawn W d) os) = .ok (.string sa) (Go.Sort.grow (redrawn W d) os) := fun d os => by
    obtain ⟨A, c, e, _, _, hA, _, h256, hr⟩ := (H0.out.1.below (hg d os) H0.out.1.hi_).frm
    obtain ⟨rfl, rfl⟩ : fAa = A ∧ fca = c := by injection e with e1 _ e2; exact ⟨e1, e2⟩
    rw [HS.out.1, HN.out.2.2.1]
    exact conv_bytes h256 hr hA
  have hcb : ∀ d os, (convert 84 9 (.slice fAb nfb fcb)).run Tryd.prog (Go.Sort.grow (redrawn W d) os) = .ok (.string sb) (Go.Sort.grow (redrawn W d) os) := fun d os => by
    obtain ⟨A, c, e, _, _, hA, _, h256, hr⟩ := (H0.out.2.below (hg d os) H0.out.2.hi_).frm
    obtain ⟨rfl, rfl⟩ : fAb = A ∧ fcb = c := by injection e with e1 _ e2; exact ⟨e1, e2⟩
    rw [HS.out.2, HN.out.2.2.2]
    exact conv_bytes h256 hr hA
  have cX : ∀ d os i, (Go.Sort.grow (redrawn W d) os).cell? ⟨x, i, none⟩ = (#[.int .i64 a.kind, .int .i64 a.frm, .int .i64 a.to_, .int .i64 a.tn, .int .i64 a.tb, .int .i64 a.ts, .int .i64 a.br, .int .i64 a.bn, .int .i64 a.ar, .int .i64 a.an, .slice lAa nla lca, .int .i64 a.xn, .int .i64 a.xb, .int .i64 a.xs, .bool a.ok, .slice fAa nfa fca] : Array Value)[i]? := fun d os => (hX.below (below_regrown W d os) hX.lt).cell
  have cY : ∀ d os i, (Go.Sort.grow (redrawn W d) os).cell? ⟨y, i, none⟩ = (#[.int .i64 b.kind, .int .i64 b.frm, .int .i64 b.to_, .int .i64 b.tn, .int .i64 b.tb, .int .i64 b.ts, .int .i64 b.br, .int .i64 b.bn, .int .i64 b.ar, .int .i64 b.an, .slice lAb nlb lcb, .int .i64 b.xn, .int .i64 b.xb, .int .i64 b.xs, .bool b.ok, .slice fAb nfb fcb] : Array Value)[i]? := fun d os => (hY.below (below_regrown W d os) hY.lt).cell
  clear hx hy hb hX hY hg
  simp only [List.cons_append, List.nil_append, List.append_eq]
  refine wp_region_lit_below ?_
  refine wpQuiet_cutN 5 (fun a' => a'.tmps.size = 75 ∧ a'.defers = [] ∧ a'.tmps.getD 2 undef = .pointer (some ⟨x, 0, none⟩) ∧ a'.tmps.getD 3 undef = .pointer (some ⟨y, 0, none⟩) ∧ ∃ b', a'.tmps.getD 9 undef = .bool b' ∧ Hid (b' = (a.kind == b.kind))) _ _ ?_ ?_
  · simp only [List.take]
    repeat (go_big_quiet_step (first | (with_reducible exact Calls.regrown_of (k59 _ _)) | fail))
    exact wpQuiet_nil ⟨rfl, rfl, rfl, rfl, _, rfl, rfl⟩
  simp only [List.drop]
  rintro a' ⟨hs, hd, h1', h3', b0, hacc, HA0⟩
  obtain ⟨φ, rfl, hφ⟩ := frame75 a' hs hd
  rw [hφ] at h1' h3' hacc
  rw [h1', h3', hacc]
  clear hs hd hφ h1' h3' hacc
  refine wpQuiet_cutN 7 (fun a' => a'.tmps.size = 75 ∧ a'.defers = [] ∧ a'.tmps.getD 2 undef = .pointer (some ⟨x, 0, none⟩) ∧ a'.tmps.getD 3 undef = .pointer (some ⟨y, 0, none⟩) ∧ ∃ b', a'.tmps.getD 16 undef = .bool b' ∧ Hid (b' = (b0 && (a.frm == b.frm)))) _ _ ?_ ?_
  · simp only [List.take]
    repeat (go_big_quiet_step (first | (with_reducible exact Calls.regrown_of (k59 _ _)) | fail))
    cases b0 with
    | false =>
      repeat (go_big_quiet_step (first | (with_reducible exact Calls.regrown_of (k59 _ _)) | fail))
      exact wpQuiet_nil ⟨rfl, rfl, rfl, rfl, _, rfl, rfl⟩
    | true =>
      repeat (go_big_quiet_step (first | (with_reducible exact Calls.regrown_of (k59 _ _)) | fail))
      exact wpQuiet_nil ⟨rfl, rfl, rfl, rfl, _, rfl, by simp [Hid]⟩
  simp only [List.drop]
  rintro a' ⟨hs, hd, h1', h3', b1, hacc, HA1⟩
  obtain ⟨φ, rfl, hφ⟩ := frame75 a' hs hd
  rw [hφ] at h1' h3' hacc
  rw [h1', h3', hacc]
  clear hs hd hφ h1' h3' hacc
  refine wpQuiet_cutN 7 (fun a' => a'.tmps.size = 75 ∧ a'.defers = [] ∧ a'.tmps.getD 2 undef = .pointer (some ⟨x, 0, none⟩) ∧ a'.tmps.getD 3 undef = .pointer (some ⟨y, 0, none⟩) ∧ ∃ b', a'.tmps.getD 23 undef = .bool b' ∧ Hid (b' = (b1 && (a.to_ == b.to_)))) _ _ ?_ ?_
  · simp only [List.take]
    repeat (go_big_quiet_step (first | (with_reducible exact Calls.regrown_of (k59 _ _)) | fail))
    cases b1 with
    | false =>
      repeat (go_big_quiet_step (first | (with_reducible exact Calls.regrown_of (k59 _ _)) | fail))
      exact wpQuiet_nil ⟨rfl, rfl, rfl, rfl, _, rfl, rfl⟩
    | true =>
      repeat (go_big_quiet_step (first | (with_reducible exact Calls.regrown_of (k59 _ _)) | fail))
      exact wpQuiet_nil ⟨rfl, rfl, rfl, rfl, _, rfl, by simp [Hid]⟩
  simp only [List.drop]
  rintro a' ⟨hs, hd, h1', h3', b2, hacc, HA2⟩
  obtain ⟨φ, rfl, hφ⟩ := frame75 a' hs hd
  rw [hφ] at h1' h3' hacc
  rw [h1', h3', hacc]
  clear hs hd hφ h1' h3' hacc
  refine wpQuiet_cutN 7 (fun a' => a'.tmps.size = 75 ∧ a'.defers = [] ∧ a'.tmps.getD 2 undef = .pointer (some ⟨x, 0, none⟩) ∧ a'.tmps.getD 3 undef = .pointer (some ⟨y, 0, none⟩) ∧ ∃ b', a'.tmps.getD 30 undef = .bool b' ∧ Hid (b' = (b2 && q3))) _ _ ?_ ?_
  · simp only [List.take]
    repeat (go_big_quiet_step (first | (with_reducible exact Calls.regrown_of (k59 _ _)) | fail))
    cases b2 with
    | false =>
      repeat (go_big_quiet_step (first | (with_reducible exact Calls.regrown_of (k59 _ _)) | fail))
      exact wpQuiet_nil ⟨rfl, rfl, rfl, rfl, _, rfl, rfl⟩
    | true =>
      repeat (go_big_quiet_step (first | (with_reducible exact Calls.regrown_of (k59 _ _)) | fail))
      exact wpQuiet_nil ⟨rfl, rfl, rfl, rfl, _, rfl, by simp [Hid]⟩
  simp only [List.drop]
  rintro a' ⟨hs, hd, h1', h3', b3, hacc, HA3⟩
  obtain ⟨φ, rfl, hφ⟩ := frame75 a' hs hd
  rw [hφ] at h1' h3' hacc
  rw [h1', h3', hacc]
  clear hs hd hφ h1' h3' hacc
  refine wpQuiet_cutN 7 (fun a' => a'.tmps.size = 75 ∧ a'.defers = [] ∧ a'.tmps.getD 2 undef = .pointer (some ⟨x, 0, none⟩) ∧ a'.tmps.getD 3 undef = .pointer (some ⟨y, 0, none⟩) ∧ ∃ b', a'.tmps.getD 37 undef = .bool b' ∧ Hid (b' = (b3 && (decide (a.br = b.br) && decide (a.bn = b.bn))))) _ _ ?_ ?_
  · simp only [List.take]
    repeat (go_big_quiet_step (first | (with_reducible exact Calls.regrown_of (k59 _ _)) | fail))
    cases b3 with
    | false =>
      repeat (go_big_quiet_step (first | (with_reducible exact Calls.regrown_of (k59 _ _)) | fail))
      exact wpQuiet_nil ⟨rfl, rfl, rfl, rfl, _, rfl, rfl⟩
    | true =>
      repeat (go_big_quiet_step (first | (with_reducible exact Calls.regrown_of (k59 _ _)) | fail))
      exact wpQuiet_nil ⟨rfl, rfl, rfl, rfl, _, rfl, by simp [Hid]⟩
  simp only [List.drop]
  rintro a' ⟨hs, hd, h1', h3', b4, hacc, HA4⟩
  obtain ⟨φ, rfl, hφ⟩ := frame75 a' hs hd
  rw [hφ] at h1' h3' hacc
  rw [h1', h3', hacc]
  clear hs hd hφ h1' h3' hacc
  refine wpQuiet_cutN 7 (fun a' => a'.tmps.size = 75 ∧ a'.defers = [] ∧ a'.tmps.getD 2 undef = .pointer (some ⟨x, 0, none⟩) ∧ a'.tmps.getD 3 undef = .pointer (some ⟨y, 0, none⟩) ∧ ∃ b', a'.tmps.getD 44 undef = .bool b' ∧ Hid (b' = (b4 && (decide (a.ar = b.ar) && decide (a.an = b.an))))) _ _ ?_ ?_
  · simp only [List.take]
    repeat (go_big_quiet_step (first | (with_reducible exact Calls.regrown_of (k59 _ _)) | fail))
    cases b4 with
    | false =>
      repeat (go_big_quiet_step (first | (with_reducible exact Calls.regrown_of (k59 _ _)) | fail))
      exact wpQuiet_nil ⟨rfl, rfl, rfl, rfl, _, rfl, rfl⟩
    | true =>
      repeat (go_big_quiet_step (first | (with_reducible exact Calls.regrown_of (k59 _ _)) | fail))
      exact wpQuiet_nil ⟨rfl, rfl, rfl, rfl, _, rfl, by simp [Hid]⟩
  simp only [List.drop]
  rintro a' ⟨hs, hd, h1', h3', b5, hacc, HA5⟩
  obtain ⟨φ, rfl, hφ⟩ := frame75 a' hs hd
  rw [hφ] at h1' h3' hacc
  rw [h1', h3', hacc]
  clear hs hd hφ h1' h3' hacc
  refine wpQuiet_cutN 7 (fun a' => a'.tmps.size = 75 ∧ a'.defers = [] ∧ a'.tmps.getD 2 undef = .pointer (some ⟨x, 0, none⟩) ∧ a'.tmps.getD 3 undef = .pointer (some ⟨y, 0, none⟩) ∧ ∃ b', a'.tmps.getD 51 undef = .bool b' ∧ Hid (b' = (b5 && q6))) _ _ ?_ ?_
  · simp only [List.take]
    repeat (go_big_quiet_step (first | (with_reducible exact Calls.regrown_of (k59 _ _)) | fail))
    cases b5 with
    | false =>
      repeat (go_big_quiet_step (first | (with_reducible exact Calls.regrown_of (k59 _ _)) | fail))
      exact wpQuiet_nil ⟨rfl, rfl, rfl, rfl, _, rfl, rfl⟩
    | true =>
      repeat (go_big_quiet_step (first | (with_reducible exact Calls.regrown_of (k59 _ _)) | fail))
      exact wpQuiet_nil ⟨rfl, rfl, rfl, rfl, _, rfl, by simp [Hid]⟩
  simp only [List.drop]
  rintro a' ⟨hs, hd, h1', h3', b6, hacc, HA6⟩
  obtain ⟨φ, rfl, hφ⟩ := frame75 a' hs hd
  rw [hφ] at h1' h3' hacc
  rw [h1', h3', hacc]
  clear hs hd hφ h1' h3' hacc
  refine wpQuiet_cutN 7 (fun a' => a'.tmps.size = 75 ∧ a'.defers = [] ∧ a'.tmps.getD 2 undef = .pointer (some ⟨x, 0, none⟩) ∧ a'.tmps.getD 3 undef = .pointer (some ⟨y, 0, none⟩) ∧ ∃ b', a'.tmps.getD 58 undef = .bool b' ∧ Hid (b' = (b6 && (a.ok == b.ok)))) _ _ ?_ ?_
  · simp only [List.take]
    repeat (go_big_quiet_step (first | (with_reducible exact Calls.regrown_of (k59 _ _)) | fail))
    cases b6 with
    | false =>
      repeat (go_big_quiet_step (first | (with_reducible exact Calls.regrown_of (k59 _ _)) | fail))
      exact wpQuiet_nil ⟨rfl, rfl, rfl, rfl, _, rfl, rfl⟩
    | true =>
      repeat (go_big_quiet_step (first | (with_reducible exact Calls.regrown_of (k59 _ _)) | fail))
      exact wpQuiet_nil ⟨rfl, rfl, rfl, rfl, _, rfl, by simp [Hid]⟩
  simp only [List.drop]
  rintro a' ⟨hs, hd, h1', h3', b7, hacc, HA7⟩
  obtain ⟨φ, rfl, hφ⟩ := frame75 a' hs hd
  rw [hφ] at h1' h3' hacc
  rw [h1', h3', hacc]
  clear hs hd hφ h1' h3' hacc
  refine wpQuiet_cutN 9 (fun a' => a'.tmps.size = 75 ∧ a'.defers = [] ∧ a'.tmps.getD 2 undef = .pointer (some ⟨x, 0, none⟩) ∧ a'.tmps.getD 3 undef = .pointer (some ⟨y, 0, none⟩) ∧ ∃ b', a'.tmps.getD 67 undef = .bool b' ∧ Hid (b' = (b7 && q8))) _ _ ?_ ?_
  · simp only [List.take]
    repeat (go_big_quiet_step (first | (with_reducible exact Calls.regrown_of (k59 _ _)) | fail))
    cases b7 with
    | false =>
      repeat (go_big_quiet_step (first | (with_reducible exact Calls.regrown_of (k59 _ _)) | fail))
      exact wpQuiet_nil ⟨rfl, rfl, rfl, rfl, _, rfl, rfl⟩
    | true =>
      repeat (go_big_quiet_step (first | (with_reducible exact Calls.regrown_of (k59 _ _)) | fail))
      exact wpQuiet_nil ⟨rfl, rfl, rfl, rfl, _, rfl, by simp [Hid]⟩
  simp only [List.drop]
  rintro a' ⟨hs, hd, h1', h3', b8, hacc, HA8⟩
  obtain ⟨φ, rfl, hφ⟩ := frame75 a' hs hd
  rw [hφ] at h1' h3' hacc
  rw [h1', h3', hacc]
  clear hs hd hφ h1' h3' hacc
  refine wpQuiet_cutN 7 (fun a' => a'.tmps.size = 75 ∧ a'.defers = [] ∧ a'.tmps.getD 2 undef = .pointer (some ⟨x, 0, none⟩) ∧ a'.tmps.getD 3 undef = .pointer (some ⟨y, 0, none⟩) ∧ ∃ b', a'.tmps.getD 74 undef = .bool b' ∧ Hid (b' = (b8 && q9))) _ _ ?_ ?_
  · simp only [List.take]
    repeat (go_big_quiet_step (first | (with_reducible exact Calls.regrown_of (k59 _ _)) | fail))
    cases b8 with
    | false =>
      repeat (go_big_quiet_step (first | (with_reducible exact Calls.regrown_of (k59 _ _)) | fail))
      exact wpQuiet_nil ⟨rfl, rfl, rfl, rfl, _, rfl, rfl⟩
    | true =>
      repeat (go_big_quiet_step (first | (with_reducible exact Calls.regrown_of (k59 _ _)) | fail))
      exact wpQuiet_nil ⟨rfl, rfl, rfl, rfl, _, rfl, by simp [Hid]⟩
  simp only [List.drop]
  rintro a' ⟨hs, hd, h1', h3', b9, hacc, HA9⟩
  obtain ⟨φ, rfl, hφ⟩ := frame75 a' hs hd
  rw [hφ] at h1' h3' hacc
  rw [h1', h3', hacc]
  clear hs hd hφ h1' h3' hacc
  repeat (go_big_quiet_step (first | (with_reducible exact Calls.regrown_of (k59 _ _)) | fail))
  refine wpQuiet_nil ?_
  intro _ hw'
  obtain ⟨⟨dq, osq⟩, hw''⟩ := hw'
  subst hw''
  go_wp2_with (fail)
  go_ret
  refine ⟨?_, HB.out.trans ((below_regrown W dq osq).mono HB.out.size)⟩
  apply ret_bool
  rw [HA9.out, HA8.out, HA7.out, HA6.out, HA5.out, HA4.out, HA3.out, HA2.out, HA1.out, HA0.out]
  rw [HQ.out.1, HQ.out.2.1, HQ.out.2.2.1, HQ.out.2.2.2, Bool.eq_iff_iff, tf_iff, msg_ext]
  simp only [Bool.and_eq_true, beq_iff_eq, decide_eq_true_eq, tf_iff, eq3]
  constructor
  · rintro ⟨⟨⟨⟨⟨⟨⟨⟨⟨h0, h1⟩, h2⟩, h3⟩, h4⟩, h5⟩, h6⟩, h7⟩, h8⟩, h9⟩
    exact ⟨h0, h1, h2, h3, h4, h5, h6, h7, h8, h9⟩
  · rintro ⟨h0, h1, h2, h3, h4, h5, h6, h7, h8, h9⟩
    exact ⟨⟨⟨⟨⟨⟨⟨⟨⟨h0, h1⟩, h2⟩, h3⟩, h4⟩, h5⟩, h6⟩, h7⟩, h8⟩, h9⟩
end Go.Proofs.YtnlncfjibbdimaaDoor
