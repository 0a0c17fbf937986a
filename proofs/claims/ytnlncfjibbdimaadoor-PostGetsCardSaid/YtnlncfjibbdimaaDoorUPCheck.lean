/-
  post.Check of every message.
-/
import Derived.Test.YtnlncfjibbdimaaDoorURRead
namespace Go.Proofs.YtnlncfjibbdimaaDoor
open Go.RowKit
set_option linter.unusedSimpArgs false
set_option linter.unusedVariables false
set_option maxRecDepth 100000 in
set_option maxHeartbeats 8000000 in
theorem pcheck_core (kind frm to_ tn tb ts br bn ar an : Int) (led : List Cmd) (xn xb xs : Int) (okm : Bool) (frame : List Nat) (lA fA : Option Addr) (nl lc nf fc : Nat) (w : World) (lo hi : Nat) (a1 : Addr) (h1 : w.cell? ⟨1, 0, none⟩ = some (errv a1)) (hnl : Hid (nl = led.length)) (hnf : Hid (nf = frame.length))
    (hl : LedAt w lo hi (.slice lA led.length lc) led) (hhi : hi ≤ w.heap.size) (hz : ∀ c ∈ led, c.Sized) :
    Calls Tryd.prog 76 #[.agg #[.int .i64 kind, .int .i64 frm, .int .i64 to_, .int .i64 tn, .int .i64 tb, .int .i64 ts, .int .i64 br, .int .i64 bn, .int .i64 ar, .int .i64 an, .slice lA nl lc, .int .i64 xn, .int .i64 xb, .int .i64 xs, .bool okm, .slice fA nf fc]] w (CheckPost (chkM ⟨kind, frm, to_, tn, tb, ts, br, bn, ar, an, led, xn, xb, xs, okm, frame⟩) a1 w) := by
  have h00 := World.block_lt_of_cell? w _ h1
  simp only at h00
  obtain ⟨r, hr⟩ : ∃ r, r = chkM ⟨kind, frm, to_, tn, tb, ts, br, bn, ar, an, led, xn, xb, xs, okm, frame⟩ := ⟨_, rfl⟩
  rw [← hr]
  obtain ⟨f0, f1, f2, f3, f4, f5, hf⟩ := mkF_6 kind
  unfold chkM fineM oddM at hr
  simp only [mf, hf, List.getD_cons_zero, List.getD_cons_succ, ← hnl.out, ← hnf.out] at hr
  have k140 := fun w => mkind_any kind w
  unfold MKindPost at k140
  rw [hf] at k140
  simp only [bools, List.map_cons, List.map_nil] at k140
  have k141f := fun w => node_any frm w
  have k141t := fun w => node_any to_ w
  have k40t := fun w => goodId_any tn tb ts w
  have k40x := fun w => goodId_any xn xb xs w
  have k142b := fun w => none_any br bn w
  have k142a := fun w => none_any ar an w
  have k143b := fun w => plegal_any br bn w
  have k143a := fun w => plegal_any ar an w
  unfold BoolPost at k141f k141t k142b k142a k143b k143a
  unfold IdPost at k40t k40x
  have hqx := fun w => eq74 xn xb xs 0 0 0 w
  obtain ⟨there, hth⟩ : ∃ x, x = mkOk kind := ⟨_, rfl⟩
  obtain ⟨e1, he1⟩ : ∃ x, x = nodeB frm := ⟨_, rfl⟩
  obtain ⟨e2, he2⟩ : ∃ x, x = nodeB to_ := ⟨_, rfl⟩
  obtain ⟨e3, he3⟩ : ∃ x, x = gid tn tb ts := ⟨_, rfl⟩
  obtain ⟨gx, hgx⟩ : ∃ x, x = gid xn xb xs := ⟨_, rfl⟩
  obtain ⟨nb, hnb⟩ : ∃ x, x = noB br bn := ⟨_, rfl⟩
  obtain ⟨na, hna⟩ : ∃ x, x = noB ar an := ⟨_, rfl⟩
  obtain ⟨lgb, hlgb⟩ : ∃ x, x = lg br bn := ⟨_, rfl⟩
  obtain ⟨lga, hlga⟩ : ∃ x, x = lg ar an := ⟨_, rfl⟩
  obtain ⟨xz, hxz⟩ : ∃ x, x = eq3 xn xb xs 0 0 0 := ⟨_, rfl⟩
  obtain ⟨gl, hgl⟩ : ∃ x, x = goodLed led := ⟨_, rfl⟩
  rw [← hth] at k140 hr
  rw [← he1] at k141f hr
  rw [← he2] at k141t hr
  rw [← he3] at k40t hr
  rw [← hgx] at k40x hr
  rw [← hnb] at k142b hr
  rw [← hna] at k142a hr
  rw [← hlgb] at k143b hr
  rw [← hlga] at k143a hr
  rw [← hxz] at hqx hr
  rw [← hgl] at hr
  have HGL := Lib.hid hgl
  have HR := Lib.hid hr
  clear hf hth he1 he2 he3 hgx hnb hna hlgb hlga hxz hgl hr
  go_enter Tryd.func76, Tryd.ntmps76
  go_upto_region 2 with (first | (go_at_call 140; refine (k140 _).mono ?_; rintro e w2 ⟨rfl, b2⟩) | fail)
  refine wp_letter (fun W => Below w.heap.size w W ∧ Blk W w.heap.size 143 #[.int .i64 kind, .int .i64 frm, .int .i64 to_, .int .i64 tn, .int .i64 tb, .int .i64 ts, .int .i64 br, .int .i64 bn, .int .i64 ar, .int .i64 an, .slice lA nl lc, .int .i64 xn, .int .i64 xb, .int .i64 xs, .bool okm, .slice fA nf fc] ∧ Blk W w2.heap.size 221 #[.bool f0, .bool f1, .bool f2, .bool f3, .bool f4, .bool f5])
    ⟨(((Below.refl _ _).alloc (Nat.le_refl _) _).trans (b2.mono (by simp))).alloc (by have := b2.size; simp at this; omega) _, ((Blk.new w 143 _).below b2 (by simp)).alloc _, Blk.new _ _ _⟩ ?_
  rintro W ⟨hb, hX, hF⟩
  obtain ⟨x, hx⟩ : ∃ x, x = w.heap.size := ⟨_, rfl⟩
  obtain ⟨f, hf⟩ : ∃ f, f = w2.heap.size := ⟨_, rfl⟩
  rw [← hx] at hX
  rw [← hf] at hF
  rw [← hx, ← hf]
  have k144 : ∀ d os, Calls Tryd.prog 144 #[.slice lA nl lc] (Go.Sort.grow (redrawn W d) os) fun e w' => e = .returned (.bool gl) ∧ Below (Go.Sort.grow (redrawn W d) os).heap.size (Go.Sort.grow (redrawn W d) os) w' := fun d os => by
    have hW' : Below w.heap.size w (Go.Sort.grow (redrawn W d) os) := hb.trans ((below_regrown W d os).mono hb.size)
    have := goodLed_any (Go.Sort.grow (redrawn W d) os) lo hi (.slice lA led.length lc) led (hl.fr (Fr.of_below hW' (fun _ => False)) hhi (fun _ _ _ h => h)) (Nat.le_trans hhi hW'.size) hz a1 ((hW'.cell h00).trans h1)
    rw [← HGL.out] at this
    rw [hnl.out]
    exact this
  have HB := Lib.hid hb
  have c1 : ∀ d os, (Go.Sort.grow (redrawn W d) os).cell? ⟨1, 0, none⟩ = some (errv a1) := fun d os => ((below_regrown W d os).cell (Nat.lt_of_lt_of_le h00 hb.size)).trans ((hb.cell h00).trans h1)
  clear hx hf b2 hb
  have cX : ∀ d os i, (Go.Sort.grow (redrawn W d) os).cell? ⟨x, i, none⟩ = (#[.int .i64 kind, .int .i64 frm, .int .i64 to_, .int .i64 tn, .int .i64 tb, .int .i64 ts, .int .i64 br, .int .i64 bn, .int .i64 ar, .int .i64 an, .slice lA nl lc, .int .i64 xn, .int .i64 xb, .int .i64 xs, .bool okm, .slice fA nf fc] : Array Value)[i]? := fun d os => (hX.below (below_regrown W d os) hX.lt).cell
  have cF : ∀ d os i, (Go.Sort.grow (redrawn W d) os).cell? ⟨f, i, none⟩ = (#[.bool f0, .bool f1, .bool f2, .bool f3, .bool f4, .bool f5] : Array Value)[i]? := fun d os => (hF.below (below_regrown W d os) hF.lt).cell
  simp only [List.cons_append, List.nil_append, List.append_eq]
  refine wp_region_quiet_cheap (by kernel_rfl) (by kernel_rfl) (by kernel_rfl) (by kernel_rfl) ?_
  refine wpQuiet_cutN 6 (fun a' => a'.tmps.size = 167 ∧ a'.defers = [] ∧ a'.tmps.getD 1 undef = .pointer (some ⟨x, 0, none⟩) ∧ a'.tmps.getD 3 undef = .pointer (some ⟨f, 0, none⟩) ∧ ∃ b, a'.tmps.getD 17 undef = .bool b ∧ Hid (b = (there && e1))) _ _ ?_ ?_
  · simp only [List.take]
    repeat (go_big_quiet_step (first | (with_reducible exact Calls.regrown_of (k141f _)) | (with_reducible exact Calls.regrown_of (k141t _)) | (with_reducible exact Calls.regrown_of (k40t _)) | (with_reducible exact Calls.regrown_of (k40x _)) | (with_reducible exact Calls.regrown_of (k142b _)) | (with_reducible exact Calls.regrown_of (k142a _)) | (with_reducible exact Calls.regrown_of (k143b _)) | (with_reducible exact Calls.regrown_of (k143a _)) | (with_reducible exact Calls.regrown_of (k144 _ _)) | fail))
    cases there with
    | false =>
      repeat (go_big_quiet_step (first | (with_reducible exact Calls.regrown_of (k141f _)) | (with_reducible exact Calls.regrown_of (k141t _)) | (with_reducible exact Calls.regrown_of (k40t _)) | (with_reducible exact Calls.regrown_of (k40x _)) | (with_reducible exact Calls.regrown_of (k142b _)) | (with_reducible exact Calls.regrown_of (k142a _)) | (with_reducible exact Calls.regrown_of (k143b _)) | (with_reducible exact Calls.regrown_of (k143a _)) | (with_reducible exact Calls.regrown_of (k144 _ _)) | fail))
      exact wpQuiet_nil ⟨rfl, rfl, rfl, rfl, _, rfl, by simp [Hid]⟩
    | true =>
      repeat (go_big_quiet_step (first | (with_reducible exact Calls.regrown_of (k141f _)) | (with_reducible exact Calls.regrown_of (k141t _)) | (with_reducible exact Calls.regrown_of (k40t _)) | (with_reducible exact Calls.regrown_of (k40x _)) | (with_reducible exact Calls.regrown_of (k142b _)) | (with_reducible exact Calls.regrown_of (k142a _)) | (with_reducible exact Calls.regrown_of (k143b _)) | (with_reducible exact Calls.regrown_of (k143a _)) | (with_reducible exact Calls.regrown_of (k144 _ _)) | fail))
      exact wpQuiet_nil ⟨rfl, rfl, rfl, rfl, _, rfl, by simp [Hid]⟩
  simp only [List.drop]
  rintro a' ⟨hs, hd, h1', h3', b0, hacc, HA0⟩
  obtain ⟨φ, rfl, hφ⟩ := frame167 a' hs hd
  rw [hφ] at h1' h3' hacc
  rw [h1', h3', hacc]
  clear hs hd hφ h1' h3' hacc
  refine wpQuiet_cutN 5 (fun a' => a'.tmps.size = 167 ∧ a'.defers = [] ∧ a'.tmps.getD 1 undef = .pointer (some ⟨x, 0, none⟩) ∧ a'.tmps.getD 3 undef = .pointer (some ⟨f, 0, none⟩) ∧ ∃ b, a'.tmps.getD 22 undef = .bool b ∧ Hid (b = (b0 && e2))) _ _ ?_ ?_
  · simp only [List.take]
    repeat (go_big_quiet_step (first | (with_reducible exact Calls.regrown_of (k141f _)) | (with_reducible exact Calls.regrown_of (k141t _)) | (with_reducible exact Calls.regrown_of (k40t _)) | (with_reducible exact Calls.regrown_of (k40x _)) | (with_reducible exact Calls.regrown_of (k142b _)) | (with_reducible exact Calls.regrown_of (k142a _)) | (with_reducible exact Calls.regrown_of (k143b _)) | (with_reducible exact Calls.regrown_of (k143a _)) | (with_reducible exact Calls.regrown_of (k144 _ _)) | fail))
    cases b0 with
    | false =>
      repeat (go_big_quiet_step (first | (with_reducible exact Calls.regrown_of (k141f _)) | (with_reducible exact Calls.regrown_of (k141t _)) | (with_reducible exact Calls.regrown_of (k40t _)) | (with_reducible exact Calls.regrown_of (k40x _)) | (with_reducible exact Calls.regrown_of (k142b _)) | (with_reducible exact Calls.regrown_of (k142a _)) | (with_reducible exact Calls.regrown_of (k143b _)) | (with_reducible exact Calls.regrown_of (k143a _)) | (with_reducible exact Calls.regrown_of (k144 _ _)) | fail))
      exact wpQuiet_nil ⟨rfl, rfl, rfl, rfl, _, rfl, by simp [Hid]⟩
    | true =>
      repeat (go_big_quiet_step (first | (with_reducible exact Calls.regrown_of (k141f _)) | (with_reducible exact Calls.regrown_of (k141t _)) | (with_reducible exact Calls.regrown_of (k40t _)) | (with_reducible exact Calls.regrown_of (k40x _)) | (with_reducible exact Calls.regrown_of (k142b _)) | (with_reducible exact Calls.regrown_of (k142a _)) | (with_reducible exact Calls.regrown_of (k143b _)) | (with_reducible exact Calls.regrown_of (k143a _)) | (with_reducible exact Calls.regrown_of (k144 _ _)) | fail))
      exact wpQuiet_nil ⟨rfl, rfl, rfl, rfl, _, rfl, by simp [Hid]⟩
  simp only [List.drop]
  rintro a' ⟨hs, hd, h1', h3', b1, hacc, HA1⟩
  obtain ⟨φ, rfl, hφ⟩ := frame167 a' hs hd
  rw [hφ] at h1' h3' hacc
  rw [h1', h3', hacc]
  clear hs hd hφ h1' h3' hacc
  refine wpQuiet_cutN 5 (fun a' => a'.tmps.size = 167 ∧ a'.defers = [] ∧ a'.tmps.getD 1 undef = .pointer (some ⟨x, 0, none⟩) ∧ a'.tmps.getD 3 undef = .pointer (some ⟨f, 0, none⟩) ∧ ∃ b, a'.tmps.getD 27 undef = .bool b ∧ Hid (b = (b1 && e3))) _ _ ?_ ?_
  · simp only [List.take]
    repeat (go_big_quiet_step (first | (with_reducible exact Calls.regrown_of (k141f _)) | (with_reducible exact Calls.regrown_of (k141t _)) | (with_reducible exact Calls.regrown_of (k40t _)) | (with_reducible exact Calls.regrown_of (k40x _)) | (with_reducible exact Calls.regrown_of (k142b _)) | (with_reducible exact Calls.regrown_of (k142a _)) | (with_reducible exact Calls.regrown_of (k143b _)) | (with_reducible exact Calls.regrown_of (k143a _)) | (with_reducible exact Calls.regrown_of (k144 _ _)) | fail))
    cases b1 with
    | false =>
      repeat (go_big_quiet_step (first | (with_reducible exact Calls.regrown_of (k141f _)) | (with_reducible exact Calls.regrown_of (k141t _)) | (with_reducible exact Calls.regrown_of (k40t _)) | (with_reducible exact Calls.regrown_of (k40x _)) | (with_reducible exact Calls.regrown_of (k142b _)) | (with_reducible exact Calls.regrown_of (k142a _)) | (with_reducible exact Calls.regrown_of (k143b _)) | (with_reducible exact Calls.regrown_of (k143a _)) | (with_reducible exact Calls.regrown_of (k144 _ _)) | fail))
      exact wpQuiet_nil ⟨rfl, rfl, rfl, rfl, _, rfl, by simp [Hid]⟩
    | true =>
      repeat (go_big_quiet_step (first | (with_reducible exact Calls.regrown_of (k141f _)) | (with_reducible exact Calls.regrown_of (k141t _)) | (with_reducible exact Calls.regrown_of (k40t _)) | (with_reducible exact Calls.regrown_of (k40x _)) | (with_reducible exact Calls.regrown_of (k142b _)) | (with_reducible exact Calls.regrown_of (k142a _)) | (with_reducible exact Calls.regrown_of (k143b _)) | (with_reducible exact Calls.regrown_of (k143a _)) | (with_reducible exact Calls.regrown_of (k144 _ _)) | fail))
      exact wpQuiet_nil ⟨rfl, rfl, rfl, rfl, _, rfl, by simp [Hid]⟩
  simp only [List.drop]
  rintro a' ⟨hs, hd, h1', h3', b2, hacc, HA2⟩
  obtain ⟨φ, rfl, hφ⟩ := frame167 a' hs hd
  rw [hφ] at h1' h3' hacc
  rw [h1', h3', hacc]
  clear hs hd hφ h1' h3' hacc
  refine wpQuiet_cutN 9 (fun a' => a'.tmps.size = 167 ∧ a'.defers = [] ∧ a'.tmps.getD 1 undef = .pointer (some ⟨x, 0, none⟩) ∧ a'.tmps.getD 3 undef = .pointer (some ⟨f, 0, none⟩) ∧ ∃ b, a'.tmps.getD 36 undef = .bool b ∧ Hid (b = (b2 && (f0 == !nb)))) _ _ ?_ ?_
  · simp only [List.take]
    repeat (go_big_quiet_step (first | (with_reducible exact Calls.regrown_of (k141f _)) | (with_reducible exact Calls.regrown_of (k141t _)) | (with_reducible exact Calls.regrown_of (k40t _)) | (with_reducible exact Calls.regrown_of (k40x _)) | (with_reducible exact Calls.regrown_of (k142b _)) | (with_reducible exact Calls.regrown_of (k142a _)) | (with_reducible exact Calls.regrown_of (k143b _)) | (with_reducible exact Calls.regrown_of (k143a _)) | (with_reducible exact Calls.regrown_of (k144 _ _)) | fail))
    cases b2 with
    | false =>
      repeat (go_big_quiet_step (first | (with_reducible exact Calls.regrown_of (k141f _)) | (with_reducible exact Calls.regrown_of (k141t _)) | (with_reducible exact Calls.regrown_of (k40t _)) | (with_reducible exact Calls.regrown_of (k40x _)) | (with_reducible exact Calls.regrown_of (k142b _)) | (with_reducible exact Calls.regrown_of (k142a _)) | (with_reducible exact Calls.regrown_of (k143b _)) | (with_reducible exact Calls.regrown_of (k143a _)) | (with_reducible exact Calls.regrown_of (k144 _ _)) | fail))
      exact wpQuiet_nil ⟨rfl, rfl, rfl, rfl, _, rfl, by simp [Hid]⟩
    | true =>
      repeat (go_big_quiet_step (first | (with_reducible exact Calls.regrown_of (k141f _)) | (with_reducible exact Calls.regrown_of (k141t _)) | (with_reducible exact Calls.regrown_of (k40t _)) | (with_reducible exact Calls.regrown_of (k40x _)) | (with_reducible exact Calls.regrown_of (k142b _)) | (with_reducible exact Calls.regrown_of (k142a _)) | (with_reducible exact Calls.regrown_of (k143b _)) | (with_reducible exact Calls.regrown_of (k143a _)) | (with_reducible exact Calls.regrown_of (k144 _ _)) | fail))
      exact wpQuiet_nil ⟨rfl, rfl, rfl, rfl, _, rfl, by simp [Hid]⟩
  simp only [List.drop]
  rintro a' ⟨hs, hd, h1', h3', b3, hacc, HA3⟩
  obtain ⟨φ, rfl, hφ⟩ := frame167 a' hs hd
  rw [hφ] at h1' h3' hacc
  rw [h1', h3', hacc]
  clear hs hd hφ h1' h3' hacc
  refine wpQuiet_cutN 10 (fun a' => a'.tmps.size = 167 ∧ a'.defers = [] ∧ a'.tmps.getD 1 undef = .pointer (some ⟨x, 0, none⟩) ∧ a'.tmps.getD 3 undef = .pointer (some ⟨f, 0, none⟩) ∧ ∃ b, a'.tmps.getD 46 undef = .bool b ∧ Hid (b = (b3 && (nb || lgb)))) _ _ ?_ ?_
  · simp only [List.take]
    repeat (go_big_quiet_step (first | (with_reducible exact Calls.regrown_of (k141f _)) | (with_reducible exact Calls.regrown_of (k141t _)) | (with_reducible exact Calls.regrown_of (k40t _)) | (with_reducible exact Calls.regrown_of (k40x _)) | (with_reducible exact Calls.regrown_of (k142b _)) | (with_reducible exact Calls.regrown_of (k142a _)) | (with_reducible exact Calls.regrown_of (k143b _)) | (with_reducible exact Calls.regrown_of (k143a _)) | (with_reducible exact Calls.regrown_of (k144 _ _)) | fail))
    cases b3 with
    | false =>
      repeat (go_big_quiet_step (first | (with_reducible exact Calls.regrown_of (k141f _)) | (with_reducible exact Calls.regrown_of (k141t _)) | (with_reducible exact Calls.regrown_of (k40t _)) | (with_reducible exact Calls.regrown_of (k40x _)) | (with_reducible exact Calls.regrown_of (k142b _)) | (with_reducible exact Calls.regrown_of (k142a _)) | (with_reducible exact Calls.regrown_of (k143b _)) | (with_reducible exact Calls.regrown_of (k143a _)) | (with_reducible exact Calls.regrown_of (k144 _ _)) | fail))
      exact wpQuiet_nil ⟨rfl, rfl, rfl, rfl, _, rfl, by simp [Hid]⟩
    | true =>
      repeat (go_big_quiet_step (first | (with_reducible exact Calls.regrown_of (k141f _)) | (with_reducible exact Calls.regrown_of (k141t _)) | (with_reducible exact Calls.regrown_of (k40t _)) | (with_reducible exact Calls.regrown_of (k40x _)) | (with_reducible exact Calls.regrown_of (k142b _)) | (with_reducible exact Calls.regrown_of (k142a _)) | (with_reducible exact Calls.regrown_of (k143b _)) | (with_reducible exact Calls.regrown_of (k143a _)) | (with_reducible exact Calls.regrown_of (k144 _ _)) | fail))
      cases nb with
      | false =>
        repeat (go_big_quiet_step (first | (with_reducible exact Calls.regrown_of (k141f _)) | (with_reducible exact Calls.regrown_of (k141t _)) | (with_reducible exact Calls.regrown_of (k40t _)) | (with_reducible exact Calls.regrown_of (k40x _)) | (with_reducible exact Calls.regrown_of (k142b _)) | (with_reducible exact Calls.regrown_of (k142a _)) | (with_reducible exact Calls.regrown_of (k143b _)) | (with_reducible exact Calls.regrown_of (k143a _)) | (with_reducible exact Calls.regrown_of (k144 _ _)) | fail))
        exact wpQuiet_nil ⟨rfl, rfl, rfl, rfl, _, rfl, by simp [Hid]⟩
      | true =>
        repeat (go_big_quiet_step (first | (with_reducible exact Calls.regrown_of (k141f _)) | (with_reducible exact Calls.regrown_of (k141t _)) | (with_reducible exact Calls.regrown_of (k40t _)) | (with_reducible exact Calls.regrown_of (k40x _)) | (with_reducible exact Calls.regrown_of (k142b _)) | (with_reducible exact Calls.regrown_of (k142a _)) | (with_reducible exact Calls.regrown_of (k143b _)) | (with_reducible exact Calls.regrown_of (k143a _)) | (with_reducible exact Calls.regrown_of (k144 _ _)) | fail))
        exact wpQuiet_nil ⟨rfl, rfl, rfl, rfl, _, rfl, by simp [Hid]⟩
  simp only [List.drop]
  rintro a' ⟨hs, hd, h1', h3', b4, hacc, HA4⟩
  obtain ⟨φ, rfl, hφ⟩ := frame167 a' hs hd
  rw [hφ] at h1' h3' hacc
  rw [h1', h3', hacc]
  clear hs hd hφ h1' h3' hacc
  refine wpQuiet_cutN 9 (fun a' => a'.tmps.size = 167 ∧ a'.defers = [] ∧ a'.tmps.getD 1 undef = .pointer (some ⟨x, 0, none⟩) ∧ a'.tmps.getD 3 undef = .pointer (some ⟨f, 0, none⟩) ∧ ∃ b, a'.tmps.getD 55 undef = .bool b ∧ Hid (b = (b4 && (f1 || na)))) _ _ ?_ ?_
  · simp only [List.take]
    repeat (go_big_quiet_step (first | (with_reducible exact Calls.regrown_of (k141f _)) | (with_reducible exact Calls.regrown_of (k141t _)) | (with_reducible exact Calls.regrown_of (k40t _)) | (with_reducible exact Calls.regrown_of (k40x _)) | (with_reducible exact Calls.regrown_of (k142b _)) | (with_reducible exact Calls.regrown_of (k142a _)) | (with_reducible exact Calls.regrown_of (k143b _)) | (with_reducible exact Calls.regrown_of (k143a _)) | (with_reducible exact Calls.regrown_of (k144 _ _)) | fail))
    cases b4 with
    | false =>
      repeat (go_big_quiet_step (first | (with_reducible exact Calls.regrown_of (k141f _)) | (with_reducible exact Calls.regrown_of (k141t _)) | (with_reducible exact Calls.regrown_of (k40t _)) | (with_reducible exact Calls.regrown_of (k40x _)) | (with_reducible exact Calls.regrown_of (k142b _)) | (with_reducible exact Calls.regrown_of (k142a _)) | (with_reducible exact Calls.regrown_of (k143b _)) | (with_reducible exact Calls.regrown_of (k143a _)) | (with_reducible exact Calls.regrown_of (k144 _ _)) | fail))
      exact wpQuiet_nil ⟨rfl, rfl, rfl, rfl, _, rfl, by simp [Hid]⟩
    | true =>
      repeat (go_big_quiet_step (first | (with_reducible exact Calls.regrown_of (k141f _)) | (with_reducible exact Calls.regrown_of (k141t _)) | (with_reducible exact Calls.regrown_of (k40t _)) | (with_reducible exact Calls.regrown_of (k40x _)) | (with_reducible exact Calls.regrown_of (k142b _)) | (with_reducible exact Calls.regrown_of (k142a _)) | (with_reducible exact Calls.regrown_of (k143b _)) | (with_reducible exact Calls.regrown_of (k143a _)) | (with_reducible exact Calls.regrown_of (k144 _ _)) | fail))
      cases f1 with
      | false =>
        repeat (go_big_quiet_step (first | (with_reducible exact Calls.regrown_of (k141f _)) | (with_reducible exact Calls.regrown_of (k141t _)) | (with_reducible exact Calls.regrown_of (k40t _)) | (with_reducible exact Calls.regrown_of (k40x _)) | (with_reducible exact Calls.regrown_of (k142b _)) | (with_reducible exact Calls.regrown_of (k142a _)) | (with_reducible exact Calls.regrown_of (k143b _)) | (with_reducible exact Calls.regrown_of (k143a _)) | (with_reducible exact Calls.regrown_of (k144 _ _)) | fail))
        exact wpQuiet_nil ⟨rfl, rfl, rfl, rfl, _, rfl, by simp [Hid]⟩
      | true =>
        repeat (go_big_quiet_step (first | (with_reducible exact Calls.regrown_of (k141f _)) | (with_reducible exact Calls.regrown_of (k141t _)) | (with_reducible exact Calls.regrown_of (k40t _)) | (with_reducible exact Calls.regrown_of (k40x _)) | (with_reducible exact Calls.regrown_of (k142b _)) | (with_reducible exact Calls.regrown_of (k142a _)) | (with_reducible exact Calls.regrown_of (k143b _)) | (with_reducible exact Calls.regrown_of (k143a _)) | (with_reducible exact Calls.regrown_of (k144 _ _)) | fail))
        exact wpQuiet_nil ⟨rfl, rfl, rfl, rfl, _, rfl, by simp [Hid]⟩
  simp only [List.drop]
  rintro a' ⟨hs, hd, h1', h3', b5, hacc, HA5⟩
  obtain ⟨φ, rfl, hφ⟩ := frame167 a' hs hd
  rw [hφ] at h1' h3' hacc
  rw [h1', h3', hacc]
  clear hs hd hφ h1' h3' hacc
  refine wpQuiet_cutN 10 (fun a' => a'.tmps.size = 167 ∧ a'.defers = [] ∧ a'.tmps.getD 1 undef = .pointer (some ⟨x, 0, none⟩) ∧ a'.tmps.getD 3 undef = .pointer (some ⟨f, 0, none⟩) ∧ ∃ b, a'.tmps.getD 65 undef = .bool b ∧ Hid (b = (b5 && (na || lga)))) _ _ ?_ ?_
  · simp only [List.take]
    repeat (go_big_quiet_step (first | (with_reducible exact Calls.regrown_of (k141f _)) | (with_reducible exact Calls.regrown_of (k141t _)) | (with_reducible exact Calls.regrown_of (k40t _)) | (with_reducible exact Calls.regrown_of (k40x _)) | (with_reducible exact Calls.regrown_of (k142b _)) | (with_reducible exact Calls.regrown_of (k142a _)) | (with_reducible exact Calls.regrown_of (k143b _)) | (with_reducible exact Calls.regrown_of (k143a _)) | (with_reducible exact Calls.regrown_of (k144 _ _)) | fail))
    cases b5 with
    | false =>
      repeat (go_big_quiet_step (first | (with_reducible exact Calls.regrown_of (k141f _)) | (with_reducible exact Calls.regrown_of (k141t _)) | (with_reducible exact Calls.regrown_of (k40t _)) | (with_reducible exact Calls.regrown_of (k40x _)) | (with_reducible exact Calls.regrown_of (k142b _)) | (with_reducible exact Calls.regrown_of (k142a _)) | (with_reducible exact Calls.regrown_of (k143b _)) | (with_reducible exact Calls.regrown_of (k143a _)) | (with_reducible exact Calls.regrown_of (k144 _ _)) | fail))
      exact wpQuiet_nil ⟨rfl, rfl, rfl, rfl, _, rfl, by simp [Hid]⟩
    | true =>
      repeat (go_big_quiet_step (first | (with_reducible exact Calls.regrown_of (k141f _)) | (with_reducible exact Calls.regrown_of (k141t _)) | (with_reducible exact Calls.regrown_of (k40t _)) | (with_reducible exact Calls.regrown_of (k40x _)) | (with_reducible exact Calls.regrown_of (k142b _)) | (with_reducible exact Calls.regrown_of (k142a _)) | (with_reducible exact Calls.regrown_of (k143b _)) | (with_reducible exact Calls.regrown_of (k143a _)) | (with_reducible exact Calls.regrown_of (k144 _ _)) | fail))
      cases na with
      | false =>
        repeat (go_big_quiet_step (first | (with_reducible exact Calls.regrown_of (k141f _)) | (with_reducible exact Calls.regrown_of (k141t _)) | (with_reducible exact Calls.regrown_of (k40t _)) | (with_reducible exact Calls.regrown_of (k40x _)) | (with_reducible exact Calls.regrown_of (k142b _)) | (with_reducible exact Calls.regrown_of (k142a _)) | (with_reducible exact Calls.regrown_of (k143b _)) | (with_reducible exact Calls.regrown_of (k143a _)) | (with_reducible exact Calls.regrown_of (k144 _ _)) | fail))
        exact wpQuiet_nil ⟨rfl, rfl, rfl, rfl, _, rfl, by simp [Hid]⟩
      | true =>
        repeat (go_big_quiet_step (first | (with_reducible exact Calls.regrown_of (k141f _)) | (with_reducible exact Calls.regrown_of (k141t _)) | (with_reducible exact Calls.regrown_of (k40t _)) | (with_reducible exact Calls.regrown_of (k40x _)) | (with_reducible exact Calls.regrown_of (k142b _)) | (with_reducible exact Calls.regrown_of (k142a _)) | (with_reducible exact Calls.regrown_of (k143b _)) | (with_reducible exact Calls.regrown_of (k143a _)) | (with_reducible exact Calls.regrown_of (k144 _ _)) | fail))
        exact wpQuiet_nil ⟨rfl, rfl, rfl, rfl, _, rfl, by simp [Hid]⟩
  simp only [List.drop]
  rintro a' ⟨hs, hd, h1', h3', b6, hacc, HA6⟩
  obtain ⟨φ, rfl, hφ⟩ := frame167 a' hs hd
  rw [hφ] at h1' h3' hacc
  rw [h1', h3', hacc]
  clear hs hd hφ h1' h3' hacc
  refine wpQuiet_cutN 10 (fun a' => a'.tmps.size = 167 ∧ a'.defers = [] ∧ a'.tmps.getD 1 undef = .pointer (some ⟨x, 0, none⟩) ∧ a'.tmps.getD 3 undef = .pointer (some ⟨f, 0, none⟩) ∧ ∃ b, a'.tmps.getD 75 undef = .bool b ∧ Hid (b = (b6 && (f2 || ((nl : Int) == 0))))) _ _ ?_ ?_
  · simp only [List.take]
    repeat (go_big_quiet_step (first | (with_reducible exact Calls.regrown_of (k141f _)) | (with_reducible exact Calls.regrown_of (k141t _)) | (with_reducible exact Calls.regrown_of (k40t _)) | (with_reducible exact Calls.regrown_of (k40x _)) | (with_reducible exact Calls.regrown_of (k142b _)) | (with_reducible exact Calls.regrown_of (k142a _)) | (with_reducible exact Calls.regrown_of (k143b _)) | (with_reducible exact Calls.regrown_of (k143a _)) | (with_reducible exact Calls.regrown_of (k144 _ _)) | fail))
    cases b6 with
    | false =>
      repeat (go_big_quiet_step (first | (with_reducible exact Calls.regrown_of (k141f _)) | (with_reducible exact Calls.regrown_of (k141t _)) | (with_reducible exact Calls.regrown_of (k40t _)) | (with_reducible exact Calls.regrown_of (k40x _)) | (with_reducible exact Calls.regrown_of (k142b _)) | (with_reducible exact Calls.regrown_of (k142a _)) | (with_reducible exact Calls.regrown_of (k143b _)) | (with_reducible exact Calls.regrown_of (k143a _)) | (with_reducible exact Calls.regrown_of (k144 _ _)) | fail))
      exact wpQuiet_nil ⟨rfl, rfl, rfl, rfl, _, rfl, by simp [Hid]⟩
    | true =>
      repeat (go_big_quiet_step (first | (with_reducible exact Calls.regrown_of (k141f _)) | (with_reducible exact Calls.regrown_of (k141t _)) | (with_reducible exact Calls.regrown_of (k40t _)) | (with_reducible exact Calls.regrown_of (k40x _)) | (with_reducible exact Calls.regrown_of (k142b _)) | (with_reducible exact Calls.regrown_of (k142a _)) | (with_reducible exact Calls.regrown_of (k143b _)) | (with_reducible exact Calls.regrown_of (k143a _)) | (with_reducible exact Calls.regrown_of (k144 _ _)) | fail))
      cases f2 with
      | false =>
        repeat (go_big_quiet_step (first | (with_reducible exact Calls.regrown_of (k141f _)) | (with_reducible exact Calls.regrown_of (k141t _)) | (with_reducible exact Calls.regrown_of (k40t _)) | (with_reducible exact Calls.regrown_of (k40x _)) | (with_reducible exact Calls.regrown_of (k142b _)) | (with_reducible exact Calls.regrown_of (k142a _)) | (with_reducible exact Calls.regrown_of (k143b _)) | (with_reducible exact Calls.regrown_of (k143a _)) | (with_reducible exact Calls.regrown_of (k144 _ _)) | fail))
        exact wpQuiet_nil ⟨rfl, rfl, rfl, rfl, _, rfl, by simp [Hid]⟩
      | true =>
        repeat (go_big_quiet_step (first | (with_reducible exact Calls.regrown_of (k141f _)) | (with_reducible exact Calls.regrown_of (k141t _)) | (with_reducible exact Calls.regrown_of (k40t _)) | (with_reducible exact Calls.regrown_of (k40x _)) | (with_reducible exact Calls.regrown_of (k142b _)) | (with_reducible exact Calls.regrown_of (k142a _)) | (with_reducible exact Calls.regrown_of (k143b _)) | (with_reducible exact Calls.regrown_of (k143a _)) | (with_reducible exact Calls.regrown_of (k144 _ _)) | fail))
        exact wpQuiet_nil ⟨rfl, rfl, rfl, rfl, _, rfl, by simp [Hid]⟩
  simp only [List.drop]
  rintro a' ⟨hs, hd, h1', h3', b7, hacc, HA7⟩
  obtain ⟨φ, rfl, hφ⟩ := frame167 a' hs hd
  rw [hφ] at h1' h3' hacc
  rw [h1', h3', hacc]
  clear hs hd hφ h1' h3' hacc
  refine wpQuiet_cutN 5 (fun a' => a'.tmps.size = 167 ∧ a'.defers = [] ∧ a'.tmps.getD 1 undef = .pointer (some ⟨x, 0, none⟩) ∧ a'.tmps.getD 3 undef = .pointer (some ⟨f, 0, none⟩) ∧ ∃ b, a'.tmps.getD 80 undef = .bool b ∧ Hid (b = (b7 && gl))) _ _ ?_ ?_
  · simp only [List.take]
    repeat (go_big_quiet_step (first | (with_reducible exact Calls.regrown_of (k141f _)) | (with_reducible exact Calls.regrown_of (k141t _)) | (with_reducible exact Calls.regrown_of (k40t _)) | (with_reducible exact Calls.regrown_of (k40x _)) | (with_reducible exact Calls.regrown_of (k142b _)) | (with_reducible exact Calls.regrown_of (k142a _)) | (with_reducible exact Calls.regrown_of (k143b _)) | (with_reducible exact Calls.regrown_of (k143a _)) | (with_reducible exact Calls.regrown_of (k144 _ _)) | fail))
    cases b7 with
    | false =>
      repeat (go_big_quiet_step (first | (with_reducible exact Calls.regrown_of (k141f _)) | (with_reducible exact Calls.regrown_of (k141t _)) | (with_reducible exact Calls.regrown_of (k40t _)) | (with_reducible exact Calls.regrown_of (k40x _)) | (with_reducible exact Calls.regrown_of (k142b _)) | (with_reducible exact Calls.regrown_of (k142a _)) | (with_reducible exact Calls.regrown_of (k143b _)) | (with_reducible exact Calls.regrown_of (k143a _)) | (with_reducible exact Calls.regrown_of (k144 _ _)) | fail))
      exact wpQuiet_nil ⟨rfl, rfl, rfl, rfl, _, rfl, by simp [Hid]⟩
    | true =>
      repeat (go_big_quiet_step (first | (with_reducible exact Calls.regrown_of (k141f _)) | (with_reducible exact Calls.regrown_of (k141t _)) | (with_reducible exact Calls.regrown_of (k40t _)) | (with_reducible exact Calls.regrown_of (k40x _)) | (with_reducible exact Calls.regrown_of (k142b _)) | (with_reducible exact Calls.regrown_of (k142a _)) | (with_reducible exact Calls.regrown_of (k143b _)) | (with_reducible exact Calls.regrown_of (k143a _)) | (with_reducible exact Calls.regrown_of (k144 _ _)) | fail))
      exact wpQuiet_nil ⟨rfl, rfl, rfl, rfl, _, rfl, by simp [Hid]⟩
  simp only [List.drop]
  rintro a' ⟨hs, hd, h1', h3', b8, hacc, HA8⟩
  obtain ⟨φ, rfl, hφ⟩ := frame167 a' hs hd
  rw [hφ] at h1' h3' hacc
  rw [h1', h3', hacc]
  clear hs hd hφ h1' h3' hacc
  refine wpQuiet_cutN 10 (fun a' => a'.tmps.size = 167 ∧ a'.defers = [] ∧ a'.tmps.getD 1 undef = .pointer (some ⟨x, 0, none⟩) ∧ a'.tmps.getD 3 undef = .pointer (some ⟨f, 0, none⟩) ∧ ∃ b, a'.tmps.getD 90 undef = .bool b ∧ Hid (b = (b8 && (f3 || xz)))) _ _ ?_ ?_
  · simp only [List.take]
    repeat (go_big_quiet_step (first | (with_reducible exact Calls.regrown_of (k141f _)) | (with_reducible exact Calls.regrown_of (k141t _)) | (with_reducible exact Calls.regrown_of (k40t _)) | (with_reducible exact Calls.regrown_of (k40x _)) | (with_reducible exact Calls.regrown_of (k142b _)) | (with_reducible exact Calls.regrown_of (k142a _)) | (with_reducible exact Calls.regrown_of (k143b _)) | (with_reducible exact Calls.regrown_of (k143a _)) | (with_reducible exact Calls.regrown_of (k144 _ _)) | fail))
    cases b8 with
    | false =>
      repeat (go_big_quiet_step (first | (with_reducible exact Calls.regrown_of (k141f _)) | (with_reducible exact Calls.regrown_of (k141t _)) | (with_reducible exact Calls.regrown_of (k40t _)) | (with_reducible exact Calls.regrown_of (k40x _)) | (with_reducible exact Calls.regrown_of (k142b _)) | (with_reducible exact Calls.regrown_of (k142a _)) | (with_reducible exact Calls.regrown_of (k143b _)) | (with_reducible exact Calls.regrown_of (k143a _)) | (with_reducible exact Calls.regrown_of (k144 _ _)) | fail))
      exact wpQuiet_nil ⟨rfl, rfl, rfl, rfl, _, rfl, by simp [Hid]⟩
    | true =>
      repeat (go_big_quiet_step (first | (with_reducible exact Calls.regrown_of (k141f _)) | (with_reducible exact Calls.regrown_of (k141t _)) | (with_reducible exact Calls.regrown_of (k40t _)) | (with_reducible exact Calls.regrown_of (k40x _)) | (with_reducible exact Calls.regrown_of (k142b _)) | (with_reducible exact Calls.regrown_of (k142a _)) | (with_reducible exact Calls.regrown_of (k143b _)) | (with_reducible exact Calls.regrown_of (k143a _)) | (with_reducible exact Calls.regrown_of (k144 _ _)) | fail))
      cases f3 with
      | false =>
        repeat (go_big_quiet_step (first | (with_reducible exact Calls.regrown_of (k141f _)) | (with_reducible exact Calls.regrown_of (k141t _)) | (with_reducible exact Calls.regrown_of (k40t _)) | (with_reducible exact Calls.regrown_of (k40x _)) | (with_reducible exact Calls.regrown_of (k142b _)) | (with_reducible exact Calls.regrown_of (k142a _)) | (with_reducible exact Calls.regrown_of (k143b _)) | (with_reducible exact Calls.regrown_of (k143a _)) | (with_reducible exact Calls.regrown_of (k144 _ _)) | fail))
        exact wpQuiet_nil ⟨rfl, rfl, rfl, rfl, _, rfl, by simp [Hid]⟩
      | true =>
        repeat (go_big_quiet_step (first | (with_reducible exact Calls.regrown_of (k141f _)) | (with_reducible exact Calls.regrown_of (k141t _)) | (with_reducible exact Calls.regrown_of (k40t _)) | (with_reducible exact Calls.regrown_of (k40x _)) | (with_reducible exact Calls.regrown_of (k142b _)) | (with_reducible exact Calls.regrown_of (k142a _)) | (with_reducible exact Calls.regrown_of (k143b _)) | (with_reducible exact Calls.regrown_of (k143a _)) | (with_reducible exact Calls.regrown_of (k144 _ _)) | fail))
        exact wpQuiet_nil ⟨rfl, rfl, rfl, rfl, _, rfl, by simp [Hid]⟩
  simp only [List.drop]
  rintro a' ⟨hs, hd, h1', h3', b9, hacc, HA9⟩
  obtain ⟨φ, rfl, hφ⟩ := frame167 a' hs hd
  rw [hφ] at h1' h3' hacc
  rw [h1', h3', hacc]
  clear hs hd hφ h1' h3' hacc
  refine wpQuiet_cutN 5 (fun a' => a'.tmps.size = 167 ∧ a'.defers = [] ∧ a'.tmps.getD 1 undef = .pointer (some ⟨x, 0, none⟩) ∧ a'.tmps.getD 3 undef = .pointer (some ⟨f, 0, none⟩) ∧ ∃ b, a'.tmps.getD 95 undef = .bool b ∧ Hid (b = (b9 && gx))) _ _ ?_ ?_
  · simp only [List.take]
    repeat (go_big_quiet_step (first | (with_reducible exact Calls.regrown_of (k141f _)) | (with_reducible exact Calls.regrown_of (k141t _)) | (with_reducible exact Calls.regrown_of (k40t _)) | (with_reducible exact Calls.regrown_of (k40x _)) | (with_reducible exact Calls.regrown_of (k142b _)) | (with_reducible exact Calls.regrown_of (k142a _)) | (with_reducible exact Calls.regrown_of (k143b _)) | (with_reducible exact Calls.regrown_of (k143a _)) | (with_reducible exact Calls.regrown_of (k144 _ _)) | fail))
    cases b9 with
    | false =>
      repeat (go_big_quiet_step (first | (with_reducible exact Calls.regrown_of (k141f _)) | (with_reducible exact Calls.regrown_of (k141t _)) | (with_reducible exact Calls.regrown_of (k40t _)) | (with_reducible exact Calls.regrown_of (k40x _)) | (with_reducible exact Calls.regrown_of (k142b _)) | (with_reducible exact Calls.regrown_of (k142a _)) | (with_reducible exact Calls.regrown_of (k143b _)) | (with_reducible exact Calls.regrown_of (k143a _)) | (with_reducible exact Calls.regrown_of (k144 _ _)) | fail))
      exact wpQuiet_nil ⟨rfl, rfl, rfl, rfl, _, rfl, by simp [Hid]⟩
    | true =>
      repeat (go_big_quiet_step (first | (with_reducible exact Calls.regrown_of (k141f _)) | (with_reducible exact Calls.regrown_of (k141t _)) | (with_reducible exact Calls.regrown_of (k40t _)) | (with_reducible exact Calls.regrown_of (k40x _)) | (with_reducible exact Calls.regrown_of (k142b _)) | (with_reducible exact Calls.regrown_of (k142a _)) | (with_reducible exact Calls.regrown_of (k143b _)) | (with_reducible exact Calls.regrown_of (k143a _)) | (with_reducible exact Calls.regrown_of (k144 _ _)) | fail))
      exact wpQuiet_nil ⟨rfl, rfl, rfl, rfl, _, rfl, by simp [Hid]⟩
  simp only [List.drop]
  rintro a' ⟨hs, hd, h1', h3', b10, hacc, HA10⟩
  obtain ⟨φ, rfl, hφ⟩ := frame167 a' hs hd
  rw [hφ] at h1' h3' hacc
  rw [h1', h3', hacc]
  clear hs hd hφ h1' h3' hacc
  refine wpQuiet_cutN 9 (fun a' => a'.tmps.size = 167 ∧ a'.defers = [] ∧ a'.tmps.getD 1 undef = .pointer (some ⟨x, 0, none⟩) ∧ a'.tmps.getD 3 undef = .pointer (some ⟨f, 0, none⟩) ∧ ∃ b, a'.tmps.getD 104 undef = .bool b ∧ Hid (b = (b10 && (f4 || !okm)))) _ _ ?_ ?_
  · simp only [List.take]
    repeat (go_big_quiet_step (first | (with_reducible exact Calls.regrown_of (k141f _)) | (with_reducible exact Calls.regrown_of (k141t _)) | (with_reducible exact Calls.regrown_of (k40t _)) | (with_reducible exact Calls.regrown_of (k40x _)) | (with_reducible exact Calls.regrown_of (k142b _)) | (with_reducible exact Calls.regrown_of (k142a _)) | (with_reducible exact Calls.regrown_of (k143b _)) | (with_reducible exact Calls.regrown_of (k143a _)) | (with_reducible exact Calls.regrown_of (k144 _ _)) | fail))
    cases b10 with
    | false =>
      repeat (go_big_quiet_step (first | (with_reducible exact Calls.regrown_of (k141f _)) | (with_reducible exact Calls.regrown_of (k141t _)) | (with_reducible exact Calls.regrown_of (k40t _)) | (with_reducible exact Calls.regrown_of (k40x _)) | (with_reducible exact Calls.regrown_of (k142b _)) | (with_reducible exact Calls.regrown_of (k142a _)) | (with_reducible exact Calls.regrown_of (k143b _)) | (with_reducible exact Calls.regrown_of (k143a _)) | (with_reducible exact Calls.regrown_of (k144 _ _)) | fail))
      exact wpQuiet_nil ⟨rfl, rfl, rfl, rfl, _, rfl, by simp [Hid]⟩
    | true =>
      repeat (go_big_quiet_step (first | (with_reducible exact Calls.regrown_of (k141f _)) | (with_reducible exact Calls.regrown_of (k141t _)) | (with_reducible exact Calls.regrown_of (k40t _)) | (with_reducible exact Calls.regrown_of (k40x _)) | (with_reducible exact Calls.regrown_of (k142b _)) | (with_reducible exact Calls.regrown_of (k142a _)) | (with_reducible exact Calls.regrown_of (k143b _)) | (with_reducible exact Calls.regrown_of (k143a _)) | (with_reducible exact Calls.regrown_of (k144 _ _)) | fail))
      cases f4 with
      | false =>
        repeat (go_big_quiet_step (first | (with_reducible exact Calls.regrown_of (k141f _)) | (with_reducible exact Calls.regrown_of (k141t _)) | (with_reducible exact Calls.regrown_of (k40t _)) | (with_reducible exact Calls.regrown_of (k40x _)) | (with_reducible exact Calls.regrown_of (k142b _)) | (with_reducible exact Calls.regrown_of (k142a _)) | (with_reducible exact Calls.regrown_of (k143b _)) | (with_reducible exact Calls.regrown_of (k143a _)) | (with_reducible exact Calls.regrown_of (k144 _ _)) | fail))
        exact wpQuiet_nil ⟨rfl, rfl, rfl, rfl, _, rfl, by simp [Hid]⟩
      | true =>
        repeat (go_big_quiet_step (first | (with_reducible exact Calls.regrown_of (k141f _)) | (with_reducible exact Calls.regrown_of (k141t _)) | (with_reducible exact Calls.regrown_of (k40t _)) | (with_reducible exact Calls.regrown_of (k40x _)) | (with_reducible exact Calls.regrown_of (k142b _)) | (with_reducible exact Calls.regrown_of (k142a _)) | (with_reducible exact Calls.regrown_of (k143b _)) | (with_reducible exact Calls.regrown_of (k143a _)) | (with_reducible exact Calls.regrown_of (k144 _ _)) | fail))
        exact wpQuiet_nil ⟨rfl, rfl, rfl, rfl, _, rfl, by simp [Hid]⟩
  simp only [List.drop]
  rintro a' ⟨hs, hd, h1', h3', b11, hacc, HA11⟩
  obtain ⟨φ, rfl, hφ⟩ := frame167 a' hs hd
  rw [hφ] at h1' h3' hacc
  rw [h1', h3', hacc]
  clear hs hd hφ h1' h3' hacc
  refine wpQuiet_cutN 10 (fun a' => a'.tmps.size = 167 ∧ a'.defers = [] ∧ a'.tmps.getD 1 undef = .pointer (some ⟨x, 0, none⟩) ∧ a'.tmps.getD 3 undef = .pointer (some ⟨f, 0, none⟩) ∧ ∃ b, a'.tmps.getD 114 undef = .bool b ∧ Hid (b = (b11 && (f5 || ((nf : Int) == 0))))) _ _ ?_ ?_
  · simp only [List.take]
    repeat (go_big_quiet_step (first | (with_reducible exact Calls.regrown_of (k141f _)) | (with_reducible exact Calls.regrown_of (k141t _)) | (with_reducible exact Calls.regrown_of (k40t _)) | (with_reducible exact Calls.regrown_of (k40x _)) | (with_reducible exact Calls.regrown_of (k142b _)) | (with_reducible exact Calls.regrown_of (k142a _)) | (with_reducible exact Calls.regrown_of (k143b _)) | (with_reducible exact Calls.regrown_of (k143a _)) | (with_reducible exact Calls.regrown_of (k144 _ _)) | fail))
    cases b11 with
    | false =>
      repeat (go_big_quiet_step (first | (with_reducible exact Calls.regrown_of (k141f _)) | (with_reducible exact Calls.regrown_of (k141t _)) | (with_reducible exact Calls.regrown_of (k40t _)) | (with_reducible exact Calls.regrown_of (k40x _)) | (with_reducible exact Calls.regrown_of (k142b _)) | (with_reducible exact Calls.regrown_of (k142a _)) | (with_reducible exact Calls.regrown_of (k143b _)) | (with_reducible exact Calls.regrown_of (k143a _)) | (with_reducible exact Calls.regrown_of (k144 _ _)) | fail))
      exact wpQuiet_nil ⟨rfl, rfl, rfl, rfl, _, rfl, by simp [Hid]⟩
    | true =>
      repeat (go_big_quiet_step (first | (with_reducible exact Calls.regrown_of (k141f _)) | (with_reducible exact Calls.regrown_of (k141t _)) | (with_reducible exact Calls.regrown_of (k40t _)) | (with_reducible exact Calls.regrown_of (k40x _)) | (with_reducible exact Calls.regrown_of (k142b _)) | (with_reducible exact Calls.regrown_of (k142a _)) | (with_reducible exact Calls.regrown_of (k143b _)) | (with_reducible exact Calls.regrown_of (k143a _)) | (with_reducible exact Calls.regrown_of (k144 _ _)) | fail))
      cases f5 with
      | false =>
        repeat (go_big_quiet_step (first | (with_reducible exact Calls.regrown_of (k141f _)) | (with_reducible exact Calls.regrown_of (k141t _)) | (with_reducible exact Calls.regrown_of (k40t _)) | (with_reducible exact Calls.regrown_of (k40x _)) | (with_reducible exact Calls.regrown_of (k142b _)) | (with_reducible exact Calls.regrown_of (k142a _)) | (with_reducible exact Calls.regrown_of (k143b _)) | (with_reducible exact Calls.regrown_of (k143a _)) | (with_reducible exact Calls.regrown_of (k144 _ _)) | fail))
        exact wpQuiet_nil ⟨rfl, rfl, rfl, rfl, _, rfl, by simp [Hid]⟩
      | true =>
        repeat (go_big_quiet_step (first | (with_reducible exact Calls.regrown_of (k141f _)) | (with_reducible exact Calls.regrown_of (k141t _)) | (with_reducible exact Calls.regrown_of (k40t _)) | (with_reducible exact Calls.regrown_of (k40x _)) | (with_reducible exact Calls.regrown_of (k142b _)) | (with_reducible exact Calls.regrown_of (k142a _)) | (with_reducible exact Calls.regrown_of (k143b _)) | (with_reducible exact Calls.regrown_of (k143a _)) | (with_reducible exact Calls.regrown_of (k144 _ _)) | fail))
        exact wpQuiet_nil ⟨rfl, rfl, rfl, rfl, _, rfl, by simp [Hid]⟩
  simp only [List.drop]
  rintro a' ⟨hs, hd, h1', h3', b12, hacc, HA12⟩
  obtain ⟨φ, rfl, hφ⟩ := frame167 a' hs hd
  rw [hφ] at h1' h3' hacc
  rw [h1', h3', hacc]
  clear hs hd hφ h1' h3' hacc
  refine wpQuiet_cutN 6 (fun a' => a'.tmps.size = 167 ∧ a'.defers = [] ∧ a'.tmps.getD 1 undef = .pointer (some ⟨x, 0, none⟩) ∧ a'.tmps.getD 3 undef = .pointer (some ⟨f, 0, none⟩) ∧ ∃ b, a'.tmps.getD 120 undef = .bool b ∧ Hid (b = (b12 && decide ((nf : Int) ≤ 4096)))) _ _ ?_ ?_
  · simp only [List.take]
    repeat (go_big_quiet_step (first | (with_reducible exact Calls.regrown_of (k141f _)) | (with_reducible exact Calls.regrown_of (k141t _)) | (with_reducible exact Calls.regrown_of (k40t _)) | (with_reducible exact Calls.regrown_of (k40x _)) | (with_reducible exact Calls.regrown_of (k142b _)) | (with_reducible exact Calls.regrown_of (k142a _)) | (with_reducible exact Calls.regrown_of (k143b _)) | (with_reducible exact Calls.regrown_of (k143a _)) | (with_reducible exact Calls.regrown_of (k144 _ _)) | fail))
    cases b12 with
    | false =>
      repeat (go_big_quiet_step (first | (with_reducible exact Calls.regrown_of (k141f _)) | (with_reducible exact Calls.regrown_of (k141t _)) | (with_reducible exact Calls.regrown_of (k40t _)) | (with_reducible exact Calls.regrown_of (k40x _)) | (with_reducible exact Calls.regrown_of (k142b _)) | (with_reducible exact Calls.regrown_of (k142a _)) | (with_reducible exact Calls.regrown_of (k143b _)) | (with_reducible exact Calls.regrown_of (k143a _)) | (with_reducible exact Calls.regrown_of (k144 _ _)) | fail))
      exact wpQuiet_nil ⟨rfl, rfl, rfl, rfl, _, rfl, by simp [Hid]⟩
    | true =>
      repeat (go_big_quiet_step (first | (with_reducible exact Calls.regrown_of (k141f _)) | (with_reducible exact Calls.regrown_of (k141t _)) | (with_reducible exact Calls.regrown_of (k40t _)) | (with_reducible exact Calls.regrown_of (k40x _)) | (with_reducible exact Calls.regrown_of (k142b _)) | (with_reducible exact Calls.regrown_of (k142a _)) | (with_reducible exact Calls.regrown_of (k143b _)) | (with_reducible exact Calls.regrown_of (k143a _)) | (with_reducible exact Calls.regrown_of (k144 _ _)) | fail))
      exact wpQuiet_nil ⟨rfl, rfl, rfl, rfl, _, rfl, by simp [Hid]⟩
  simp only [List.drop]
  rintro a' ⟨hs, hd, h1', h3', b13, hacc, HA13⟩
  obtain ⟨φ, rfl, hφ⟩ := frame167 a' hs hd
  rw [hφ] at h1' h3' hacc
  rw [h1', h3', hacc]
  clear hs hd hφ h1' h3' hacc
  repeat (go_big_quiet_step (first | (with_reducible exact Calls.regrown_of (k141f _)) | (with_reducible exact Calls.regrown_of (k141t _)) | (with_reducible exact Calls.regrown_of (k40t _)) | (with_reducible exact Calls.regrown_of (k40x _)) | (with_reducible exact Calls.regrown_of (k142b _)) | (with_reducible exact Calls.regrown_of (k142a _)) | (with_reducible exact Calls.regrown_of (k143b _)) | (with_reducible exact Calls.regrown_of (k143a _)) | (with_reducible exact Calls.regrown_of (k144 _ _)) | fail))
  refine wpQuiet_nil ?_
  intro _ hw'
  obtain ⟨⟨dq, osq⟩, hw''⟩ := hw'
  subst hw''
  have hr2 : Hid (r = (b13 && !((decide (kind = 2) && na && decide (0 < nl)) || (decide (kind = 5) && na) || (decide (kind = 9) && !okm && decide (0 < nf))))) := by
    have d1 : ((nl : Int) == 0) = decide (nl = 0) := by rw [Bool.eq_iff_iff]; simp
    have d2 : ((nf : Int) == 0) = decide (nf = 0) := by rw [Bool.eq_iff_iff]; simp
    have d3 : decide ((nf : Int) ≤ 4096) = decide (nf ≤ 4096) := by rw [Bool.eq_iff_iff]; simp; omega
    show r = _
    rw [HR.out, HA13.out, HA12.out, HA11.out, HA10.out, HA9.out, HA8.out, HA7.out, HA6.out, HA5.out, HA4.out, HA3.out, HA2.out, HA1.out, HA0.out, d1, d2, d3]
  have hW : Below W.heap.size W (Go.Sort.grow (redrawn W dq) osq) := below_regrown W dq osq
  have HC := Lib.hid (show ∀ W', Below W.heap.size W W' → (∀ i, W'.cell? ⟨x, i, none⟩ = (#[.int .i64 kind, .int .i64 frm, .int .i64 to_, .int .i64 tn, .int .i64 tb, .int .i64 ts, .int .i64 br, .int .i64 bn, .int .i64 ar, .int .i64 an, .slice lA nl lc, .int .i64 xn, .int .i64 xb, .int .i64 xs, .bool okm, .slice fA nf fc] : Array Value)[i]?) ∧ W'.cell? ⟨1, 0, none⟩ = some (errv a1) from fun W' b => ⟨(hX.below b hX.lt).cell, (b.cell (Nat.lt_of_lt_of_le h00 HB.out.size)).trans ((HB.out.cell h00).trans h1)⟩)
  obtain ⟨Wg, hWg⟩ : ∃ Wg, Wg = Go.Sort.grow (redrawn W dq) osq := ⟨_, rfl⟩
  rw [← hWg] at hW
  simp only [] at *
  try rw [← hWg]
  have hWb := HC.out Wg hW
  have cg := hWb.1
  have cg1 := hWb.2
  have HW := Lib.hid hW
  clear hWb hW hWg cX cF c1 k144 hX hF h1 h00 hqx k140 k141f k141t k40t k40x k142b k143b k143a hl hhi hz hnl hnf HR HGL HA0 HA1 HA2 HA3 HA4 HA5 HA6 HA7 HA8 HA9 HA10 HA11 HA12 HA13 b0 b1 b2 b3 b4 b5 b6 b7 b8 b9 b10 b11 b12
  cases b13 with
  | false =>
    go_wp2_with (first | (go_at_call 142; refine (k142a _).mono ?_; rintro e w5 ⟨rfl, b5⟩; have hW5 := HW.out.trans (b5.mono HW.out.size); have cg := (HC.out _ hW5).1; have cg1 := (HC.out _ hW5).2; have HW5 := Lib.hid hW5; clear b5 hW5) | fail)
    go_ret
    exact CheckPost.of (r := false) (by have h := hr2.out; rw [h]; simp) rfl HB.out HW.out
  | true =>
    by_cases k2 : kind = 2
    · subst k2
      cases na with
      | false =>
        go_wp2_with (first | (go_at_call 142; refine (k142a _).mono ?_; rintro e w5 ⟨rfl, b5⟩; have hW5 := HW.out.trans (b5.mono HW.out.size); have cg := (HC.out _ hW5).1; have cg1 := (HC.out _ hW5).2; have HW5 := Lib.hid hW5; clear b5 hW5) | fail)
        go_ret
        exact CheckPost.of (r := true) (by have h := hr2.out; rw [h]; simp) rfl HB.out HW5.out
      | true =>
        by_cases hn0 : 0 < nl
        · have hn0' : (0 : Int) < nl := by omega
          go_wp2_with (first | (go_at_call 142; refine (k142a _).mono ?_; rintro e w5 ⟨rfl, b5⟩; have hW5 := HW.out.trans (b5.mono HW.out.size); have cg := (HC.out _ hW5).1; have cg1 := (HC.out _ hW5).2; have HW5 := Lib.hid hW5; clear b5 hW5) | fail)
          go_ret
          exact CheckPost.of (r := false) (by have h := hr2.out; rw [h]; simp [hn0]) rfl HB.out HW5.out
        · have hn0' : ¬ (0 : Int) < nl := by omega
          go_wp2_with (first | (go_at_call 142; refine (k142a _).mono ?_; rintro e w5 ⟨rfl, b5⟩; have hW5 := HW.out.trans (b5.mono HW.out.size); have cg := (HC.out _ hW5).1; have cg1 := (HC.out _ hW5).2; have HW5 := Lib.hid hW5; clear b5 hW5) | fail)
          go_ret
          exact CheckPost.of (r := true) (by have h := hr2.out; rw [h]; simp [hn0]) rfl HB.out HW5.out
    · by_cases k5 : kind = 5
      · subst k5
        cases na with
        | false =>
          go_wp2_with (first | (go_at_call 142; refine (k142a _).mono ?_; rintro e w5 ⟨rfl, b5⟩; have hW5 := HW.out.trans (b5.mono HW.out.size); have cg := (HC.out _ hW5).1; have cg1 := (HC.out _ hW5).2; have HW5 := Lib.hid hW5; clear b5 hW5) | fail)
          go_ret
          exact CheckPost.of (r := true) (by have h := hr2.out; rw [h]; simp) rfl HB.out HW5.out
        | true =>
          go_wp2_with (first | (go_at_call 142; refine (k142a _).mono ?_; rintro e w5 ⟨rfl, b5⟩; have hW5 := HW.out.trans (b5.mono HW.out.size); have cg := (HC.out _ hW5).1; have cg1 := (HC.out _ hW5).2; have HW5 := Lib.hid hW5; clear b5 hW5) | fail)
          go_ret
          exact CheckPost.of (r := false) (by have h := hr2.out; rw [h]; simp) rfl HB.out HW5.out
      · by_cases k9 : kind = 9
        · subst k9
          cases okm with
          | true =>
            go_wp2_with (first | (go_at_call 142; refine (k142a _).mono ?_; rintro e w5 ⟨rfl, b5⟩; have hW5 := HW.out.trans (b5.mono HW.out.size); have cg := (HC.out _ hW5).1; have cg1 := (HC.out _ hW5).2; have HW5 := Lib.hid hW5; clear b5 hW5) | fail)
            go_ret
            exact CheckPost.of (r := true) (by have h := hr2.out; rw [h]; simp) rfl HB.out HW.out
          | false =>
            by_cases hn0 : 0 < nf
            · have hn0' : (0 : Int) < nf := by omega
              go_wp2_with (first | (go_at_call 142; refine (k142a _).mono ?_; rintro e w5 ⟨rfl, b5⟩; have hW5 := HW.out.trans (b5.mono HW.out.size); have cg := (HC.out _ hW5).1; have cg1 := (HC.out _ hW5).2; have HW5 := Lib.hid hW5; clear b5 hW5) | fail)
              go_ret
              exact CheckPost.of (r := false) (by have h := hr2.out; rw [h]; simp [hn0]) rfl HB.out HW.out
            · have hn0' : ¬ (0 : Int) < nf := by omega
              go_wp2_with (first | (go_at_call 142; refine (k142a _).mono ?_; rintro e w5 ⟨rfl, b5⟩; have hW5 := HW.out.trans (b5.mono HW.out.size); have cg := (HC.out _ hW5).1; have cg1 := (HC.out _ hW5).2; have HW5 := Lib.hid hW5; clear b5 hW5) | fail)
              go_ret
              exact CheckPost.of (r := true) (by have h := hr2.out; rw [h]; simp [hn0]) rfl HB.out HW.out
        · skip
          go_wp2_with (first | (go_at_call 142; refine (k142a _).mono ?_; rintro e w5 ⟨rfl, b5⟩; have hW5 := HW.out.trans (b5.mono HW.out.size); have cg := (HC.out _ hW5).1; have cg1 := (HC.out _ hW5).2; have HW5 := Lib.hid hW5; clear b5 hW5) | fail)
          go_ret
          exact CheckPost.of (r := true) (by have h := hr2.out; rw [h]; simp [k2, k5, k9]) rfl HB.out HW.out
end Go.Proofs.YtnlncfjibbdimaaDoor
