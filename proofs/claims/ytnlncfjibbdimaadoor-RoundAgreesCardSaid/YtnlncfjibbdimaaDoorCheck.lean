/-
  The walk of command.Check, for every command.
-/
import Derived.Test.YtnlncfjibbdimaaDoorPiece
import Derived.Test.YtnlncfjibbdimaaDoorErrs
import Derived.Test.YtnlncfjibbdimaaDoorEqAgg
namespace Go.Proofs.YtnlncfjibbdimaaDoor
open Go.RowKit
set_option linter.unusedSimpArgs false
set_option linter.unusedVariables false

def Cmd.Sized (c : Cmd) : Prop := c.bucket.size ≤ maxLen ∧ c.key.size ≤ maxLen ∧ c.etag.size ≤ maxLen
theorem kindF_8 (n : Int) : ∃ f0 f1 f2 f3 f4 f5 f6 f7, kindF n = [f0, f1, f2, f3, f4, f5, f6, f7] := by
  have h : (kindF n).length = 8 := by
    unfold kindF
    repeat (split; · rfl)
    rfl
  match hk : kindF n, h with
  | [a, b, c, d, e, f, g, i], _ => exact ⟨a, b, c, d, e, f, g, i, rfl⟩

/-- A field is good where it is wanted, and zero where it isn't. -/
def eith (a b c : Bool) : Bool := a && b || !a && c
def fld (n : Int) (i : Nat) : Bool := (kindF n).getD i false
/-- What Check asks. -/
def chkB (c : Cmd) : Bool :=
  kindOk c.kind && gid c.idn c.idb c.ids && eith (fld c.kind 0) (gbC c.bucket) c.bucket.toList.isEmpty && eith (fld c.kind 1) (gk c.key) c.key.toList.isEmpty &&
  eith (fld c.kind 2) (gid c.upn c.upb c.ups) (eq3 c.upn c.upb c.ups 0 0 0) && eith (fld c.kind 3) (pieceB c.pbn c.pbb c.pbs c.psize c.etag && eq3 c.pbn c.pbb c.pbs c.idn c.idb c.ids) (eq5 c.pbn c.pbb c.pbs c.psize c.etag 0 0 0 0 ⟨#[]⟩) &&
  eith (fld c.kind 4) (decide (c.part ≥ 1) && decide (c.part ≤ 16)) (c.part == 0) && eith (fld c.kind 5) (partsB c.parts) ((c.parts.length : Int) == 0) && eith (fld c.kind 6) (tick c.time) (c.time == 0) && eith (fld c.kind 7) (tick c.days) (c.days == 0)

def CheckPost (r : Bool) (a1 : Addr) (w : World) (e : Ending) (w' : World) : Prop := e = .returned (if r = true then .nilIface else errv a1) ∧ Below w.heap.size w w'
theorem CheckPost.of {r r' : Bool} {a1 : Addr} {w W w' : World} {v : Value} (h : r' = r) (hv : v = (if r = true then .nilIface else errv a1)) (hb : Below w.heap.size w W) (hc : Below W.heap.size W w') : CheckPost r' a1 w (.returned v) w' := by
  subst h
  exact ⟨by rw [hv], hb.trans (hc.mono hb.size)⟩

set_option maxRecDepth 100000 in
set_option maxHeartbeats 8000000 in
theorem check_any (c : Cmd) (hz : c.Sized) (w : World) (lo hi : Nat) (pv : Value) (hp : IntsAt w lo hi pv c.parts) (hhi : hi ≤ w.heap.size) (a1 : Addr) (h1 : w.cell? ⟨1, 0, none⟩ = some (errv a1)) :
    Calls Tryd.prog 43 #[.agg (c.cells pv).toArray] w (CheckPost (chkB c) a1 w) := by
  obtain ⟨r, hr⟩ : ∃ r, r = chkB c := ⟨_, rfl⟩
  rw [← hr]
  unfold chkB at hr
  obtain ⟨kind, idn, idb, ids, bucket, key, upn, upb, ups, pbn, pbb, pbs, psize, etag, part, parts, time, days⟩ := c
  obtain ⟨z1, z2, z3⟩ := hz
  simp only at z1 z2 z3 hp hr
  have h00 := World.block_lt_of_cell? w _ h1
  simp only at h00
  obtain ⟨pA, pc, rfl, hp2⟩ := hp
  have hp0 : IntsAt w lo hi (.slice pA parts.length pc) parts := ⟨pA, pc, rfl, hp2⟩
  clear hp2
  obtain ⟨f0, f1, f2, f3, f4, f5, f6, f7, hf⟩ := kindF_8 kind
  simp only [fld, hf, List.getD_cons_zero, List.getD_cons_succ] at hr
  have k94 := fun w => kind_any kind w
  unfold KindPost at k94
  rw [hf] at k94
  simp only [bools, List.map_cons, List.map_nil] at k94
  clear hf
  obtain ⟨ok, hok⟩ : ∃ x, x = kindOk kind := ⟨_, rfl⟩
  rw [← hok] at k94 hr
  obtain ⟨g1, hg1⟩ : ∃ x, x = gid idn idb ids := ⟨_, rfl⟩
  obtain ⟨g2, hg2⟩ : ∃ x, x = gbC bucket := ⟨_, rfl⟩
  obtain ⟨g3, hg3⟩ : ∃ x, x = gk key := ⟨_, rfl⟩
  obtain ⟨g4, hg4⟩ : ∃ x, x = gid upn upb ups := ⟨_, rfl⟩
  obtain ⟨gp, hgp⟩ : ∃ x, x = pieceB pbn pbb pbs psize etag := ⟨_, rfl⟩
  obtain ⟨g6, hg6⟩ : ∃ x, x = partsB parts := ⟨_, rfl⟩
  obtain ⟨g7, hg7⟩ : ∃ x, x = tick time := ⟨_, rfl⟩
  obtain ⟨g8, hg8⟩ : ∃ x, x = tick days := ⟨_, rfl⟩
  have k40 := fun w => goodId_any idn idb ids w
  have k40u := fun w => goodId_any upn upb ups w
  unfold IdPost at k40 k40u
  have k36 := fun w => goodBucket_any bucket z1 w
  have k38 : ∀ w, Calls Tryd.prog 38 #[.string key] w fun e w' => e = .returned (.bool (gk key)) ∧ Below w.heap.size w w' := fun w => (goodKey_any key z2 w).mono fun e w' ⟨h1, h2⟩ => ⟨h1, by rw [h2]; exact Below.refl _ _⟩
  have k96 := fun w => goodPiece_any pbn pbb pbs psize etag z3 w
  unfold PiecePost at k96
  have k93t : ∀ w, Calls Tryd.prog 93 #[.int .i64 time] w fun e w' => e = .returned (.bool (tick time)) ∧ Below w.heap.size w w' := fun w => (time_any time w).mono fun e w' ⟨h1, h2⟩ => ⟨h1, by rw [h2]; exact Below.refl _ _⟩
  have k93d : ∀ w, Calls Tryd.prog 93 #[.int .i64 days] w fun e w' => e = .returned (.bool (tick days)) ∧ Below w.heap.size w w' := fun w => (time_any days w).mono fun e w' ⟨h1, h2⟩ => ⟨h1, by rw [h2]; exact Below.refl _ _⟩
  obtain ⟨p1, hp1⟩ : ∃ x, x = decide (part ≥ 1) := ⟨_, rfl⟩
  rw [← hg1] at k40 hr
  rw [← hg2] at k36 hr
  rw [← hg3] at k38 hr
  rw [← hg4] at k40u hr
  rw [← hgp] at k96 hr
  rw [← hg6] at hr
  rw [← hg7] at k93t hr
  rw [← hg8] at k93d hr
  rw [← hp1] at hr
  have hq2 := fun w => eq74 upn upb ups 0 0 0 w
  have hq3 := fun w => eq79 pbn pbb pbs psize etag 0 0 0 0 ⟨#[]⟩ w
  have hq4 := fun w => eq74 pbn pbb pbs idn idb ids w
  obtain ⟨zu, hzu⟩ : ∃ x, x = eq3 upn upb ups 0 0 0 := ⟨_, rfl⟩
  obtain ⟨zp, hzp⟩ : ∃ x, x = eq5 pbn pbb pbs psize etag 0 0 0 0 ⟨#[]⟩ := ⟨_, rfl⟩
  obtain ⟨eb, heb⟩ : ∃ x, x = eq3 pbn pbb pbs idn idb ids := ⟨_, rfl⟩
  rw [← hzu] at hq2 hr
  rw [← hzp] at hq3 hr
  rw [← heb] at hq4 hr
  have HG6 := Lib.hid hg6
  have hd : decide (part ≥ 1) = p1 := hp1.symm
  clear hok hg1 hg2 hg3 hg4 hgp hg6 hg7 hg8 hzu hzp heb hp1 z1 z2 z3
  obtain ⟨x1, hx1⟩ : ∃ x, x = eith f0 g2 bucket.toList.isEmpty := ⟨_, rfl⟩
  have k95_1 := fun w => either_any f0 g2 bucket.toList.isEmpty w
  rw [show (f0 && g2 || !f0 && bucket.toList.isEmpty) = x1 from hx1.symm] at k95_1
  rw [← hx1] at hr
  obtain ⟨x2, hx2⟩ : ∃ x, x = eith f1 g3 key.toList.isEmpty := ⟨_, rfl⟩
  have k95_2 := fun w => either_any f1 g3 key.toList.isEmpty w
  rw [show (f1 && g3 || !f1 && key.toList.isEmpty) = x2 from hx2.symm] at k95_2
  rw [← hx2] at hr
  obtain ⟨x3, hx3⟩ : ∃ x, x = eith f2 g4 zu := ⟨_, rfl⟩
  have k95_3 := fun w => either_any f2 g4 zu w
  rw [show (f2 && g4 || !f2 && zu) = x3 from hx3.symm] at k95_3
  rw [← hx3] at hr
  obtain ⟨x4, hx4⟩ : ∃ x, x = eith f3 (gp && eb) zp := ⟨_, rfl⟩
  have k95_4 := fun w => either_any f3 (gp && eb) zp w
  rw [show (f3 && (gp && eb) || !f3 && zp) = x4 from hx4.symm] at k95_4
  rw [← hx4] at hr
  obtain ⟨x5, hx5⟩ : ∃ x, x = eith f4 (p1 && decide (part ≤ 16)) (part == 0) := ⟨_, rfl⟩
  have k95_5 := fun w => either_any f4 (p1 && decide (part ≤ 16)) (part == 0) w
  rw [show (f4 && (p1 && decide (part ≤ 16)) || !f4 && (part == 0)) = x5 from hx5.symm] at k95_5
  rw [← hx5] at hr
  obtain ⟨x6, hx6⟩ : ∃ x, x = eith f5 g6 ((parts.length : Int) == 0) := ⟨_, rfl⟩
  have k95_6 := fun w => either_any f5 g6 ((parts.length : Int) == 0) w
  rw [show (f5 && g6 || !f5 && ((parts.length : Int) == 0)) = x6 from hx6.symm] at k95_6
  rw [← hx6] at hr
  obtain ⟨x7, hx7⟩ : ∃ x, x = eith f6 g7 (time == 0) := ⟨_, rfl⟩
  have k95_7 := fun w => either_any f6 g7 (time == 0) w
  rw [show (f6 && g7 || !f6 && (time == 0)) = x7 from hx7.symm] at k95_7
  rw [← hx7] at hr
  obtain ⟨x8, hx8⟩ : ∃ x, x = eith f7 g8 (days == 0) := ⟨_, rfl⟩
  have k95_8 := fun w => either_any f7 g8 (days == 0) w
  rw [show (f7 && g8 || !f7 && (days == 0)) = x8 from hx8.symm] at k95_8
  rw [← hx8] at hr
  clear hx1 hx2 hx3 hx4 hx5 hx6 hx7 hx8
  have HR := Lib.hid hr
  clear hr
  simp only [Cmd.cells]
  go_enter Tryd.func43, Tryd.ntmps43
  go_upto_region 2 with (first | (go_at_call 94; refine (k94 _).mono ?_; rintro e w2 ⟨rfl, b2⟩) | fail)
  refine wp_letter (fun W => Below w.heap.size w W ∧ Blk W w.heap.size 81 #[.int .i64 kind, .int .i64 idn, .int .i64 idb, .int .i64 ids, .string bucket, .string key, .int .i64 upn, .int .i64 upb, .int .i64 ups, .int .i64 pbn, .int .i64 pbb, .int .i64 pbs, .int .i64 psize, .string etag, .int .i64 part, .slice pA parts.length pc, .int .i64 time, .int .i64 days] ∧ Blk W w2.heap.size 168 #[.bool f0, .bool f1, .bool f2, .bool f3, .bool f4, .bool f5, .bool f6, .bool f7])
    ⟨(((Below.refl _ _).alloc (Nat.le_refl _) _).trans (b2.mono (by simp))).alloc (by have := b2.size; simp at this; omega) _, ((Blk.new w 81 _).below b2 (by simp)).alloc _, Blk.new _ _ _⟩ ?_
  rintro W ⟨hb, hX, hF⟩
  obtain ⟨x, hx⟩ : ∃ x, x = w.heap.size := ⟨_, rfl⟩
  obtain ⟨f, hf⟩ : ∃ f, f = w2.heap.size := ⟨_, rfl⟩
  rw [← hx] at hX
  rw [← hf] at hF
  rw [← hx, ← hf]
  have k97 : ∀ W', Below w.heap.size w W' → Calls Tryd.prog 97 #[.slice pA parts.length pc] W' fun e w' => e = .returned (.bool g6) ∧ Below W'.heap.size W' w' := fun W' hW' =>
    (goodParts_any W' lo hi _ parts (hp0.fr (Fr.of_below hW' (fun _ => False)) hhi (fun _ _ _ h => h))).mono fun e w' ⟨h1, h2⟩ => ⟨by rw [h1, HG6.out], by rw [h2]; exact Below.refl _ _⟩
  have k97 : ∀ d os, Calls Tryd.prog 97 #[.slice pA parts.length pc] (Go.Sort.grow (redrawn W d) os) fun e w' => e = .returned (.bool g6) ∧ Below (Go.Sort.grow (redrawn W d) os).heap.size (Go.Sort.grow (redrawn W d) os) w' := fun d os => k97 (Go.Sort.grow (redrawn W d) os) (hb.trans ((below_regrown W d os).mono hb.size))
  have c1 : ∀ d os, (Go.Sort.grow (redrawn W d) os).cell? ⟨1, 0, none⟩ = some (errv a1) := fun d os => ((below_regrown W d os).cell (Nat.lt_of_lt_of_le h00 hb.size)).trans ((hb.cell h00).trans h1)
  have HB := Lib.hid hb
  clear hx hf b2 hb
  have cX : ∀ d os i, (Go.Sort.grow (redrawn W d) os).cell? ⟨x, i, none⟩ = (#[.int .i64 kind, .int .i64 idn, .int .i64 idb, .int .i64 ids, .string bucket, .string key, .int .i64 upn, .int .i64 upb, .int .i64 ups, .int .i64 pbn, .int .i64 pbb, .int .i64 pbs, .int .i64 psize, .string etag, .int .i64 part, .slice pA parts.length pc, .int .i64 time, .int .i64 days] : Array Value)[i]? := fun d os => (hX.below (below_regrown W d os) hX.lt).cell
  have cF : ∀ d os i, (Go.Sort.grow (redrawn W d) os).cell? ⟨f, i, none⟩ = (#[.bool f0, .bool f1, .bool f2, .bool f3, .bool f4, .bool f5, .bool f6, .bool f7] : Array Value)[i]? := fun d os => (hF.below (below_regrown W d os) hF.lt).cell
  simp only [List.cons_append, List.nil_append, List.append_eq]
  refine wp_region_quiet_cheap (by kernel_rfl) (by kernel_rfl) (by kernel_rfl) (by kernel_rfl) ?_
  repeat (go_big_quiet_step (first | (with_reducible exact Calls.regrown_of (k40 _)) | (with_reducible exact Calls.regrown_of (k36 _)) | (with_reducible exact Calls.regrown_of (k38 _)) | (with_reducible exact Calls.regrown_of (k40u _)) | (with_reducible exact Calls.regrown_of (k96 _)) | (with_reducible exact Calls.regrown_of (k97 _ _)) | (with_reducible exact Calls.regrown_of (k93t _)) | (with_reducible exact Calls.regrown_of (k93d _)) | (with_reducible exact Calls.regrown_of (k95_1 _)) | (with_reducible exact Calls.regrown_of (k95_2 _)) | (with_reducible exact Calls.regrown_of (k95_3 _)) | (with_reducible exact Calls.regrown_of (k95_4 _)) | (with_reducible exact Calls.regrown_of (k95_5 _)) | (with_reducible exact Calls.regrown_of (k95_6 _)) | (with_reducible exact Calls.regrown_of (k95_7 _)) | (with_reducible exact Calls.regrown_of (k95_8 _))))
  cases ok with
  | false =>
    repeat (go_big_quiet_step (first | (with_reducible exact Calls.regrown_of (k40 _)) | (with_reducible exact Calls.regrown_of (k36 _)) | (with_reducible exact Calls.regrown_of (k38 _)) | (with_reducible exact Calls.regrown_of (k40u _)) | (with_reducible exact Calls.regrown_of (k96 _)) | (with_reducible exact Calls.regrown_of (k97 _ _)) | (with_reducible exact Calls.regrown_of (k93t _)) | (with_reducible exact Calls.regrown_of (k93d _)) | (with_reducible exact Calls.regrown_of (k95_1 _)) | (with_reducible exact Calls.regrown_of (k95_2 _)) | (with_reducible exact Calls.regrown_of (k95_3 _)) | (with_reducible exact Calls.regrown_of (k95_4 _)) | (with_reducible exact Calls.regrown_of (k95_5 _)) | (with_reducible exact Calls.regrown_of (k95_6 _)) | (with_reducible exact Calls.regrown_of (k95_7 _)) | (with_reducible exact Calls.regrown_of (k95_8 _))))
    refine wpQuiet_nil ?_
    intro _ hw'
    obtain ⟨⟨dq, osq⟩, hw''⟩ := hw'
    subst hw''
    go_wp2_with (fail)
    go_ret
    exact CheckPost.of (r := false) (by have h := HR.out; simpa using h) rfl HB.out (below_regrown W dq osq)
  | true =>
    repeat (go_big_quiet_step (first | (with_reducible exact Calls.regrown_of (k40 _)) | (with_reducible exact Calls.regrown_of (k36 _)) | (with_reducible exact Calls.regrown_of (k38 _)) | (with_reducible exact Calls.regrown_of (k40u _)) | (with_reducible exact Calls.regrown_of (k96 _)) | (with_reducible exact Calls.regrown_of (k97 _ _)) | (with_reducible exact Calls.regrown_of (k93t _)) | (with_reducible exact Calls.regrown_of (k93d _)) | (with_reducible exact Calls.regrown_of (k95_1 _)) | (with_reducible exact Calls.regrown_of (k95_2 _)) | (with_reducible exact Calls.regrown_of (k95_3 _)) | (with_reducible exact Calls.regrown_of (k95_4 _)) | (with_reducible exact Calls.regrown_of (k95_5 _)) | (with_reducible exact Calls.regrown_of (k95_6 _)) | (with_reducible exact Calls.regrown_of (k95_7 _)) | (with_reducible exact Calls.regrown_of (k95_8 _))))
    cases g1 with
    | false =>
      repeat (go_big_quiet_step (first | (with_reducible exact Calls.regrown_of (k40 _)) | (with_reducible exact Calls.regrown_of (k36 _)) | (with_reducible exact Calls.regrown_of (k38 _)) | (with_reducible exact Calls.regrown_of (k40u _)) | (with_reducible exact Calls.regrown_of (k96 _)) | (with_reducible exact Calls.regrown_of (k97 _ _)) | (with_reducible exact Calls.regrown_of (k93t _)) | (with_reducible exact Calls.regrown_of (k93d _)) | (with_reducible exact Calls.regrown_of (k95_1 _)) | (with_reducible exact Calls.regrown_of (k95_2 _)) | (with_reducible exact Calls.regrown_of (k95_3 _)) | (with_reducible exact Calls.regrown_of (k95_4 _)) | (with_reducible exact Calls.regrown_of (k95_5 _)) | (with_reducible exact Calls.regrown_of (k95_6 _)) | (with_reducible exact Calls.regrown_of (k95_7 _)) | (with_reducible exact Calls.regrown_of (k95_8 _))))
      refine wpQuiet_nil ?_
      intro _ hw'
      obtain ⟨⟨dq, osq⟩, hw''⟩ := hw'
      subst hw''
      go_wp2_with (fail)
      go_ret
      exact CheckPost.of (r := false) (by have h := HR.out; simpa using h) rfl HB.out (below_regrown W dq osq)
    | true =>
      repeat (go_big_quiet_step (first | (with_reducible exact Calls.regrown_of (k40 _)) | (with_reducible exact Calls.regrown_of (k36 _)) | (with_reducible exact Calls.regrown_of (k38 _)) | (with_reducible exact Calls.regrown_of (k40u _)) | (with_reducible exact Calls.regrown_of (k96 _)) | (with_reducible exact Calls.regrown_of (k97 _ _)) | (with_reducible exact Calls.regrown_of (k93t _)) | (with_reducible exact Calls.regrown_of (k93d _)) | (with_reducible exact Calls.regrown_of (k95_1 _)) | (with_reducible exact Calls.regrown_of (k95_2 _)) | (with_reducible exact Calls.regrown_of (k95_3 _)) | (with_reducible exact Calls.regrown_of (k95_4 _)) | (with_reducible exact Calls.regrown_of (k95_5 _)) | (with_reducible exact Calls.regrown_of (k95_6 _)) | (with_reducible exact Calls.regrown_of (k95_7 _)) | (with_reducible exact Calls.regrown_of (k95_8 _))))
      cases x1 with
      | false =>
        repeat (go_big_quiet_step (first | (with_reducible exact Calls.regrown_of (k40 _)) | (with_reducible exact Calls.regrown_of (k36 _)) | (with_reducible exact Calls.regrown_of (k38 _)) | (with_reducible exact Calls.regrown_of (k40u _)) | (with_reducible exact Calls.regrown_of (k96 _)) | (with_reducible exact Calls.regrown_of (k97 _ _)) | (with_reducible exact Calls.regrown_of (k93t _)) | (with_reducible exact Calls.regrown_of (k93d _)) | (with_reducible exact Calls.regrown_of (k95_1 _)) | (with_reducible exact Calls.regrown_of (k95_2 _)) | (with_reducible exact Calls.regrown_of (k95_3 _)) | (with_reducible exact Calls.regrown_of (k95_4 _)) | (with_reducible exact Calls.regrown_of (k95_5 _)) | (with_reducible exact Calls.regrown_of (k95_6 _)) | (with_reducible exact Calls.regrown_of (k95_7 _)) | (with_reducible exact Calls.regrown_of (k95_8 _))))
        refine wpQuiet_nil ?_
        intro _ hw'
        obtain ⟨⟨dq, osq⟩, hw''⟩ := hw'
        subst hw''
        go_wp2_with (fail)
        go_ret
        exact CheckPost.of (r := false) (by have h := HR.out; simpa using h) rfl HB.out (below_regrown W dq osq)
      | true =>
        repeat (go_big_quiet_step (first | (with_reducible exact Calls.regrown_of (k40 _)) | (with_reducible exact Calls.regrown_of (k36 _)) | (with_reducible exact Calls.regrown_of (k38 _)) | (with_reducible exact Calls.regrown_of (k40u _)) | (with_reducible exact Calls.regrown_of (k96 _)) | (with_reducible exact Calls.regrown_of (k97 _ _)) | (with_reducible exact Calls.regrown_of (k93t _)) | (with_reducible exact Calls.regrown_of (k93d _)) | (with_reducible exact Calls.regrown_of (k95_1 _)) | (with_reducible exact Calls.regrown_of (k95_2 _)) | (with_reducible exact Calls.regrown_of (k95_3 _)) | (with_reducible exact Calls.regrown_of (k95_4 _)) | (with_reducible exact Calls.regrown_of (k95_5 _)) | (with_reducible exact Calls.regrown_of (k95_6 _)) | (with_reducible exact Calls.regrown_of (k95_7 _)) | (with_reducible exact Calls.regrown_of (k95_8 _))))
        cases x2 with
        | false =>
          repeat (go_big_quiet_step (first | (with_reducible exact Calls.regrown_of (k40 _)) | (with_reducible exact Calls.regrown_of (k36 _)) | (with_reducible exact Calls.regrown_of (k38 _)) | (with_reducible exact Calls.regrown_of (k40u _)) | (with_reducible exact Calls.regrown_of (k96 _)) | (with_reducible exact Calls.regrown_of (k97 _ _)) | (with_reducible exact Calls.regrown_of (k93t _)) | (with_reducible exact Calls.regrown_of (k93d _)) | (with_reducible exact Calls.regrown_of (k95_1 _)) | (with_reducible exact Calls.regrown_of (k95_2 _)) | (with_reducible exact Calls.regrown_of (k95_3 _)) | (with_reducible exact Calls.regrown_of (k95_4 _)) | (with_reducible exact Calls.regrown_of (k95_5 _)) | (with_reducible exact Calls.regrown_of (k95_6 _)) | (with_reducible exact Calls.regrown_of (k95_7 _)) | (with_reducible exact Calls.regrown_of (k95_8 _))))
          refine wpQuiet_nil ?_
          intro _ hw'
          obtain ⟨⟨dq, osq⟩, hw''⟩ := hw'
          subst hw''
          go_wp2_with (fail)
          go_ret
          exact CheckPost.of (r := false) (by have h := HR.out; simpa using h) rfl HB.out (below_regrown W dq osq)
        | true =>
          repeat (go_big_quiet_step (first | (with_reducible exact Calls.regrown_of (k40 _)) | (with_reducible exact Calls.regrown_of (k36 _)) | (with_reducible exact Calls.regrown_of (k38 _)) | (with_reducible exact Calls.regrown_of (k40u _)) | (with_reducible exact Calls.regrown_of (k96 _)) | (with_reducible exact Calls.regrown_of (k97 _ _)) | (with_reducible exact Calls.regrown_of (k93t _)) | (with_reducible exact Calls.regrown_of (k93d _)) | (with_reducible exact Calls.regrown_of (k95_1 _)) | (with_reducible exact Calls.regrown_of (k95_2 _)) | (with_reducible exact Calls.regrown_of (k95_3 _)) | (with_reducible exact Calls.regrown_of (k95_4 _)) | (with_reducible exact Calls.regrown_of (k95_5 _)) | (with_reducible exact Calls.regrown_of (k95_6 _)) | (with_reducible exact Calls.regrown_of (k95_7 _)) | (with_reducible exact Calls.regrown_of (k95_8 _))))
          cases x3 with
          | false =>
            repeat (go_big_quiet_step (first | (with_reducible exact Calls.regrown_of (k40 _)) | (with_reducible exact Calls.regrown_of (k36 _)) | (with_reducible exact Calls.regrown_of (k38 _)) | (with_reducible exact Calls.regrown_of (k40u _)) | (with_reducible exact Calls.regrown_of (k96 _)) | (with_reducible exact Calls.regrown_of (k97 _ _)) | (with_reducible exact Calls.regrown_of (k93t _)) | (with_reducible exact Calls.regrown_of (k93d _)) | (with_reducible exact Calls.regrown_of (k95_1 _)) | (with_reducible exact Calls.regrown_of (k95_2 _)) | (with_reducible exact Calls.regrown_of (k95_3 _)) | (with_reducible exact Calls.regrown_of (k95_4 _)) | (with_reducible exact Calls.regrown_of (k95_5 _)) | (with_reducible exact Calls.regrown_of (k95_6 _)) | (with_reducible exact Calls.regrown_of (k95_7 _)) | (with_reducible exact Calls.regrown_of (k95_8 _))))
            refine wpQuiet_nil ?_
            intro _ hw'
            obtain ⟨⟨dq, osq⟩, hw''⟩ := hw'
            subst hw''
            go_wp2_with (fail)
            go_ret
            exact CheckPost.of (r := false) (by have h := HR.out; simpa using h) rfl HB.out (below_regrown W dq osq)
          | true =>
            repeat (go_big_quiet_step (first | (with_reducible exact Calls.regrown_of (k40 _)) | (with_reducible exact Calls.regrown_of (k36 _)) | (with_reducible exact Calls.regrown_of (k38 _)) | (with_reducible exact Calls.regrown_of (k40u _)) | (with_reducible exact Calls.regrown_of (k96 _)) | (with_reducible exact Calls.regrown_of (k97 _ _)) | (with_reducible exact Calls.regrown_of (k93t _)) | (with_reducible exact Calls.regrown_of (k93d _)) | (with_reducible exact Calls.regrown_of (k95_1 _)) | (with_reducible exact Calls.regrown_of (k95_2 _)) | (with_reducible exact Calls.regrown_of (k95_3 _)) | (with_reducible exact Calls.regrown_of (k95_4 _)) | (with_reducible exact Calls.regrown_of (k95_5 _)) | (with_reducible exact Calls.regrown_of (k95_6 _)) | (with_reducible exact Calls.regrown_of (k95_7 _)) | (with_reducible exact Calls.regrown_of (k95_8 _))))
            cases gp with
            | false =>
              simp only [Bool.false_and] at k95_4
              repeat (go_big_quiet_step (first | (with_reducible exact Calls.regrown_of (k40 _)) | (with_reducible exact Calls.regrown_of (k36 _)) | (with_reducible exact Calls.regrown_of (k38 _)) | (with_reducible exact Calls.regrown_of (k40u _)) | (with_reducible exact Calls.regrown_of (k96 _)) | (with_reducible exact Calls.regrown_of (k97 _ _)) | (with_reducible exact Calls.regrown_of (k93t _)) | (with_reducible exact Calls.regrown_of (k93d _)) | (with_reducible exact Calls.regrown_of (k95_1 _)) | (with_reducible exact Calls.regrown_of (k95_2 _)) | (with_reducible exact Calls.regrown_of (k95_3 _)) | (with_reducible exact Calls.regrown_of (k95_4 _)) | (with_reducible exact Calls.regrown_of (k95_5 _)) | (with_reducible exact Calls.regrown_of (k95_6 _)) | (with_reducible exact Calls.regrown_of (k95_7 _)) | (with_reducible exact Calls.regrown_of (k95_8 _))))
              cases x4 with
              | false =>
                repeat (go_big_quiet_step (first | (with_reducible exact Calls.regrown_of (k40 _)) | (with_reducible exact Calls.regrown_of (k36 _)) | (with_reducible exact Calls.regrown_of (k38 _)) | (with_reducible exact Calls.regrown_of (k40u _)) | (with_reducible exact Calls.regrown_of (k96 _)) | (with_reducible exact Calls.regrown_of (k97 _ _)) | (with_reducible exact Calls.regrown_of (k93t _)) | (with_reducible exact Calls.regrown_of (k93d _)) | (with_reducible exact Calls.regrown_of (k95_1 _)) | (with_reducible exact Calls.regrown_of (k95_2 _)) | (with_reducible exact Calls.regrown_of (k95_3 _)) | (with_reducible exact Calls.regrown_of (k95_4 _)) | (with_reducible exact Calls.regrown_of (k95_5 _)) | (with_reducible exact Calls.regrown_of (k95_6 _)) | (with_reducible exact Calls.regrown_of (k95_7 _)) | (with_reducible exact Calls.regrown_of (k95_8 _))))
                refine wpQuiet_nil ?_
                intro _ hw'
                obtain ⟨⟨dq, osq⟩, hw''⟩ := hw'
                subst hw''
                go_wp2_with (fail)
                go_ret
                exact CheckPost.of (r := false) (by have h := HR.out; simpa using h) rfl HB.out (below_regrown W dq osq)
              | true =>
                repeat (go_big_quiet_step (first | (with_reducible exact Calls.regrown_of (k40 _)) | (with_reducible exact Calls.regrown_of (k36 _)) | (with_reducible exact Calls.regrown_of (k38 _)) | (with_reducible exact Calls.regrown_of (k40u _)) | (with_reducible exact Calls.regrown_of (k96 _)) | (with_reducible exact Calls.regrown_of (k97 _ _)) | (with_reducible exact Calls.regrown_of (k93t _)) | (with_reducible exact Calls.regrown_of (k93d _)) | (with_reducible exact Calls.regrown_of (k95_1 _)) | (with_reducible exact Calls.regrown_of (k95_2 _)) | (with_reducible exact Calls.regrown_of (k95_3 _)) | (with_reducible exact Calls.regrown_of (k95_4 _)) | (with_reducible exact Calls.regrown_of (k95_5 _)) | (with_reducible exact Calls.regrown_of (k95_6 _)) | (with_reducible exact Calls.regrown_of (k95_7 _)) | (with_reducible exact Calls.regrown_of (k95_8 _))))
                cases p1 with
                | false =>
                  simp only [Bool.false_and] at k95_5
                  repeat (go_big_quiet_step (first | (with_reducible exact Calls.regrown_of (k40 _)) | (with_reducible exact Calls.regrown_of (k36 _)) | (with_reducible exact Calls.regrown_of (k38 _)) | (with_reducible exact Calls.regrown_of (k40u _)) | (with_reducible exact Calls.regrown_of (k96 _)) | (with_reducible exact Calls.regrown_of (k97 _ _)) | (with_reducible exact Calls.regrown_of (k93t _)) | (with_reducible exact Calls.regrown_of (k93d _)) | (with_reducible exact Calls.regrown_of (k95_1 _)) | (with_reducible exact Calls.regrown_of (k95_2 _)) | (with_reducible exact Calls.regrown_of (k95_3 _)) | (with_reducible exact Calls.regrown_of (k95_4 _)) | (with_reducible exact Calls.regrown_of (k95_5 _)) | (with_reducible exact Calls.regrown_of (k95_6 _)) | (with_reducible exact Calls.regrown_of (k95_7 _)) | (with_reducible exact Calls.regrown_of (k95_8 _))))
                  cases x5 with
                  | false =>
                    repeat (go_big_quiet_step (first | (with_reducible exact Calls.regrown_of (k40 _)) | (with_reducible exact Calls.regrown_of (k36 _)) | (with_reducible exact Calls.regrown_of (k38 _)) | (with_reducible exact Calls.regrown_of (k40u _)) | (with_reducible exact Calls.regrown_of (k96 _)) | (with_reducible exact Calls.regrown_of (k97 _ _)) | (with_reducible exact Calls.regrown_of (k93t _)) | (with_reducible exact Calls.regrown_of (k93d _)) | (with_reducible exact Calls.regrown_of (k95_1 _)) | (with_reducible exact Calls.regrown_of (k95_2 _)) | (with_reducible exact Calls.regrown_of (k95_3 _)) | (with_reducible exact Calls.regrown_of (k95_4 _)) | (with_reducible exact Calls.regrown_of (k95_5 _)) | (with_reducible exact Calls.regrown_of (k95_6 _)) | (with_reducible exact Calls.regrown_of (k95_7 _)) | (with_reducible exact Calls.regrown_of (k95_8 _))))
                    refine wpQuiet_nil ?_
                    intro _ hw'
                    obtain ⟨⟨dq, osq⟩, hw''⟩ := hw'
                    subst hw''
                    go_wp2_with (fail)
                    go_ret
                    exact CheckPost.of (r := false) (by have h := HR.out; simpa using h) rfl HB.out (below_regrown W dq osq)
                  | true =>
                    repeat (go_big_quiet_step (first | (with_reducible exact Calls.regrown_of (k40 _)) | (with_reducible exact Calls.regrown_of (k36 _)) | (with_reducible exact Calls.regrown_of (k38 _)) | (with_reducible exact Calls.regrown_of (k40u _)) | (with_reducible exact Calls.regrown_of (k96 _)) | (with_reducible exact Calls.regrown_of (k97 _ _)) | (with_reducible exact Calls.regrown_of (k93t _)) | (with_reducible exact Calls.regrown_of (k93d _)) | (with_reducible exact Calls.regrown_of (k95_1 _)) | (with_reducible exact Calls.regrown_of (k95_2 _)) | (with_reducible exact Calls.regrown_of (k95_3 _)) | (with_reducible exact Calls.regrown_of (k95_4 _)) | (with_reducible exact Calls.regrown_of (k95_5 _)) | (with_reducible exact Calls.regrown_of (k95_6 _)) | (with_reducible exact Calls.regrown_of (k95_7 _)) | (with_reducible exact Calls.regrown_of (k95_8 _))))
                    cases x6 with
                    | false =>
                      repeat (go_big_quiet_step (first | (with_reducible exact Calls.regrown_of (k40 _)) | (with_reducible exact Calls.regrown_of (k36 _)) | (with_reducible exact Calls.regrown_of (k38 _)) | (with_reducible exact Calls.regrown_of (k40u _)) | (with_reducible exact Calls.regrown_of (k96 _)) | (with_reducible exact Calls.regrown_of (k97 _ _)) | (with_reducible exact Calls.regrown_of (k93t _)) | (with_reducible exact Calls.regrown_of (k93d _)) | (with_reducible exact Calls.regrown_of (k95_1 _)) | (with_reducible exact Calls.regrown_of (k95_2 _)) | (with_reducible exact Calls.regrown_of (k95_3 _)) | (with_reducible exact Calls.regrown_of (k95_4 _)) | (with_reducible exact Calls.regrown_of (k95_5 _)) | (with_reducible exact Calls.regrown_of (k95_6 _)) | (with_reducible exact Calls.regrown_of (k95_7 _)) | (with_reducible exact Calls.regrown_of (k95_8 _))))
                      refine wpQuiet_nil ?_
                      intro _ hw'
                      obtain ⟨⟨dq, osq⟩, hw''⟩ := hw'
                      subst hw''
                      go_wp2_with (fail)
                      go_ret
                      exact CheckPost.of (r := false) (by have h := HR.out; simpa using h) rfl HB.out (below_regrown W dq osq)
                    | true =>
                      repeat (go_big_quiet_step (first | (with_reducible exact Calls.regrown_of (k40 _)) | (with_reducible exact Calls.regrown_of (k36 _)) | (with_reducible exact Calls.regrown_of (k38 _)) | (with_reducible exact Calls.regrown_of (k40u _)) | (with_reducible exact Calls.regrown_of (k96 _)) | (with_reducible exact Calls.regrown_of (k97 _ _)) | (with_reducible exact Calls.regrown_of (k93t _)) | (with_reducible exact Calls.regrown_of (k93d _)) | (with_reducible exact Calls.regrown_of (k95_1 _)) | (with_reducible exact Calls.regrown_of (k95_2 _)) | (with_reducible exact Calls.regrown_of (k95_3 _)) | (with_reducible exact Calls.regrown_of (k95_4 _)) | (with_reducible exact Calls.regrown_of (k95_5 _)) | (with_reducible exact Calls.regrown_of (k95_6 _)) | (with_reducible exact Calls.regrown_of (k95_7 _)) | (with_reducible exact Calls.regrown_of (k95_8 _))))
                      cases x7 with
                      | false =>
                        repeat (go_big_quiet_step (first | (with_reducible exact Calls.regrown_of (k40 _)) | (with_reducible exact Calls.regrown_of (k36 _)) | (with_reducible exact Calls.regrown_of (k38 _)) | (with_reducible exact Calls.regrown_of (k40u _)) | (with_reducible exact Calls.regrown_of (k96 _)) | (with_reducible exact Calls.regrown_of (k97 _ _)) | (with_reducible exact Calls.regrown_of (k93t _)) | (with_reducible exact Calls.regrown_of (k93d _)) | (with_reducible exact Calls.regrown_of (k95_1 _)) | (with_reducible exact Calls.regrown_of (k95_2 _)) | (with_reducible exact Calls.regrown_of (k95_3 _)) | (with_reducible exact Calls.regrown_of (k95_4 _)) | (with_reducible exact Calls.regrown_of (k95_5 _)) | (with_reducible exact Calls.regrown_of (k95_6 _)) | (with_reducible exact Calls.regrown_of (k95_7 _)) | (with_reducible exact Calls.regrown_of (k95_8 _))))
                        refine wpQuiet_nil ?_
                        intro _ hw'
                        obtain ⟨⟨dq, osq⟩, hw''⟩ := hw'
                        subst hw''
                        go_wp2_with (fail)
                        go_ret
                        exact CheckPost.of (r := false) (by have h := HR.out; simpa using h) rfl HB.out (below_regrown W dq osq)
                      | true =>
                        repeat (go_big_quiet_step (first | (with_reducible exact Calls.regrown_of (k40 _)) | (with_reducible exact Calls.regrown_of (k36 _)) | (with_reducible exact Calls.regrown_of (k38 _)) | (with_reducible exact Calls.regrown_of (k40u _)) | (with_reducible exact Calls.regrown_of (k96 _)) | (with_reducible exact Calls.regrown_of (k97 _ _)) | (with_reducible exact Calls.regrown_of (k93t _)) | (with_reducible exact Calls.regrown_of (k93d _)) | (with_reducible exact Calls.regrown_of (k95_1 _)) | (with_reducible exact Calls.regrown_of (k95_2 _)) | (with_reducible exact Calls.regrown_of (k95_3 _)) | (with_reducible exact Calls.regrown_of (k95_4 _)) | (with_reducible exact Calls.regrown_of (k95_5 _)) | (with_reducible exact Calls.regrown_of (k95_6 _)) | (with_reducible exact Calls.regrown_of (k95_7 _)) | (with_reducible exact Calls.regrown_of (k95_8 _))))
                        cases x8 with
                        | false =>
                          repeat (go_big_quiet_step (first | (with_reducible exact Calls.regrown_of (k40 _)) | (with_reducible exact Calls.regrown_of (k36 _)) | (with_reducible exact Calls.regrown_of (k38 _)) | (with_reducible exact Calls.regrown_of (k40u _)) | (with_reducible exact Calls.regrown_of (k96 _)) | (with_reducible exact Calls.regrown_of (k97 _ _)) | (with_reducible exact Calls.regrown_of (k93t _)) | (with_reducible exact Calls.regrown_of (k93d _)) | (with_reducible exact Calls.regrown_of (k95_1 _)) | (with_reducible exact Calls.regrown_of (k95_2 _)) | (with_reducible exact Calls.regrown_of (k95_3 _)) | (with_reducible exact Calls.regrown_of (k95_4 _)) | (with_reducible exact Calls.regrown_of (k95_5 _)) | (with_reducible exact Calls.regrown_of (k95_6 _)) | (with_reducible exact Calls.regrown_of (k95_7 _)) | (with_reducible exact Calls.regrown_of (k95_8 _))))
                          refine wpQuiet_nil ?_
                          intro _ hw'
                          obtain ⟨⟨dq, osq⟩, hw''⟩ := hw'
                          subst hw''
                          go_wp2_with (fail)
                          go_ret
                          exact CheckPost.of (r := false) (by have h := HR.out; simpa using h) rfl HB.out (below_regrown W dq osq)
                        | true =>
                          repeat (go_big_quiet_step (first | (with_reducible exact Calls.regrown_of (k40 _)) | (with_reducible exact Calls.regrown_of (k36 _)) | (with_reducible exact Calls.regrown_of (k38 _)) | (with_reducible exact Calls.regrown_of (k40u _)) | (with_reducible exact Calls.regrown_of (k96 _)) | (with_reducible exact Calls.regrown_of (k97 _ _)) | (with_reducible exact Calls.regrown_of (k93t _)) | (with_reducible exact Calls.regrown_of (k93d _)) | (with_reducible exact Calls.regrown_of (k95_1 _)) | (with_reducible exact Calls.regrown_of (k95_2 _)) | (with_reducible exact Calls.regrown_of (k95_3 _)) | (with_reducible exact Calls.regrown_of (k95_4 _)) | (with_reducible exact Calls.regrown_of (k95_5 _)) | (with_reducible exact Calls.regrown_of (k95_6 _)) | (with_reducible exact Calls.regrown_of (k95_7 _)) | (with_reducible exact Calls.regrown_of (k95_8 _))))
                          refine wpQuiet_nil ?_
                          intro _ hw'
                          obtain ⟨⟨dq, osq⟩, hw''⟩ := hw'
                          subst hw''
                          go_wp2_with (fail)
                          go_ret
                          exact CheckPost.of (r := true) (by have h := HR.out; simpa using h) rfl HB.out (below_regrown W dq osq)
                | true =>
                  simp only [Bool.true_and] at k95_5
                  repeat (go_big_quiet_step (first | (with_reducible exact Calls.regrown_of (k40 _)) | (with_reducible exact Calls.regrown_of (k36 _)) | (with_reducible exact Calls.regrown_of (k38 _)) | (with_reducible exact Calls.regrown_of (k40u _)) | (with_reducible exact Calls.regrown_of (k96 _)) | (with_reducible exact Calls.regrown_of (k97 _ _)) | (with_reducible exact Calls.regrown_of (k93t _)) | (with_reducible exact Calls.regrown_of (k93d _)) | (with_reducible exact Calls.regrown_of (k95_1 _)) | (with_reducible exact Calls.regrown_of (k95_2 _)) | (with_reducible exact Calls.regrown_of (k95_3 _)) | (with_reducible exact Calls.regrown_of (k95_4 _)) | (with_reducible exact Calls.regrown_of (k95_5 _)) | (with_reducible exact Calls.regrown_of (k95_6 _)) | (with_reducible exact Calls.regrown_of (k95_7 _)) | (with_reducible exact Calls.regrown_of (k95_8 _))))
                  cases x5 with
                  | false =>
                    repeat (go_big_quiet_step (first | (with_reducible exact Calls.regrown_of (k40 _)) | (with_reducible exact Calls.regrown_of (k36 _)) | (with_reducible exact Calls.regrown_of (k38 _)) | (with_reducible exact Calls.regrown_of (k40u _)) | (with_reducible exact Calls.regrown_of (k96 _)) | (with_reducible exact Calls.regrown_of (k97 _ _)) | (with_reducible exact Calls.regrown_of (k93t _)) | (with_reducible exact Calls.regrown_of (k93d _)) | (with_reducible exact Calls.regrown_of (k95_1 _)) | (with_reducible exact Calls.regrown_of (k95_2 _)) | (with_reducible exact Calls.regrown_of (k95_3 _)) | (with_reducible exact Calls.regrown_of (k95_4 _)) | (with_reducible exact Calls.regrown_of (k95_5 _)) | (with_reducible exact Calls.regrown_of (k95_6 _)) | (with_reducible exact Calls.regrown_of (k95_7 _)) | (with_reducible exact Calls.regrown_of (k95_8 _))))
                    refine wpQuiet_nil ?_
                    intro _ hw'
                    obtain ⟨⟨dq, osq⟩, hw''⟩ := hw'
                    subst hw''
                    go_wp2_with (fail)
                    go_ret
                    exact CheckPost.of (r := false) (by have h := HR.out; simpa using h) rfl HB.out (below_regrown W dq osq)
                  | true =>
                    repeat (go_big_quiet_step (first | (with_reducible exact Calls.regrown_of (k40 _)) | (with_reducible exact Calls.regrown_of (k36 _)) | (with_reducible exact Calls.regrown_of (k38 _)) | (with_reducible exact Calls.regrown_of (k40u _)) | (with_reducible exact Calls.regrown_of (k96 _)) | (with_reducible exact Calls.regrown_of (k97 _ _)) | (with_reducible exact Calls.regrown_of (k93t _)) | (with_reducible exact Calls.regrown_of (k93d _)) | (with_reducible exact Calls.regrown_of (k95_1 _)) | (with_reducible exact Calls.regrown_of (k95_2 _)) | (with_reducible exact Calls.regrown_of (k95_3 _)) | (with_reducible exact Calls.regrown_of (k95_4 _)) | (with_reducible exact Calls.regrown_of (k95_5 _)) | (with_reducible exact Calls.regrown_of (k95_6 _)) | (with_reducible exact Calls.regrown_of (k95_7 _)) | (with_reducible exact Calls.regrown_of (k95_8 _))))
                    cases x6 with
                    | false =>
                      repeat (go_big_quiet_step (first | (with_reducible exact Calls.regrown_of (k40 _)) | (with_reducible exact Calls.regrown_of (k36 _)) | (with_reducible exact Calls.regrown_of (k38 _)) | (with_reducible exact Calls.regrown_of (k40u _)) | (with_reducible exact Calls.regrown_of (k96 _)) | (with_reducible exact Calls.regrown_of (k97 _ _)) | (with_reducible exact Calls.regrown_of (k93t _)) | (with_reducible exact Calls.regrown_of (k93d _)) | (with_reducible exact Calls.regrown_of (k95_1 _)) | (with_reducible exact Calls.regrown_of (k95_2 _)) | (with_reducible exact Calls.regrown_of (k95_3 _)) | (with_reducible exact Calls.regrown_of (k95_4 _)) | (with_reducible exact Calls.regrown_of (k95_5 _)) | (with_reducible exact Calls.regrown_of (k95_6 _)) | (with_reducible exact Calls.regrown_of (k95_7 _)) | (with_reducible exact Calls.regrown_of (k95_8 _))))
                      refine wpQuiet_nil ?_
                      intro _ hw'
                      obtain ⟨⟨dq, osq⟩, hw''⟩ := hw'
                      subst hw''
                      go_wp2_with (fail)
                      go_ret
                      exact CheckPost.of (r := false) (by have h := HR.out; simpa using h) rfl HB.out (below_regrown W dq osq)
                    | true =>
                      repeat (go_big_quiet_step (first | (with_reducible exact Calls.regrown_of (k40 _)) | (with_reducible exact Calls.regrown_of (k36 _)) | (with_reducible exact Calls.regrown_of (k38 _)) | (with_reducible exact Calls.regrown_of (k40u _)) | (with_reducible exact Calls.regrown_of (k96 _)) | (with_reducible exact Calls.regrown_of (k97 _ _)) | (with_reducible exact Calls.regrown_of (k93t _)) | (with_reducible exact Calls.regrown_of (k93d _)) | (with_reducible exact Calls.regrown_of (k95_1 _)) | (with_reducible exact Calls.regrown_of (k95_2 _)) | (with_reducible exact Calls.regrown_of (k95_3 _)) | (with_reducible exact Calls.regrown_of (k95_4 _)) | (with_reducible exact Calls.regrown_of (k95_5 _)) | (with_reducible exact Calls.regrown_of (k95_6 _)) | (with_reducible exact Calls.regrown_of (k95_7 _)) | (with_reducible exact Calls.regrown_of (k95_8 _))))
                      cases x7 with
                      | false =>
                        repeat (go_big_quiet_step (first | (with_reducible exact Calls.regrown_of (k40 _)) | (with_reducible exact Calls.regrown_of (k36 _)) | (with_reducible exact Calls.regrown_of (k38 _)) | (with_reducible exact Calls.regrown_of (k40u _)) | (with_reducible exact Calls.regrown_of (k96 _)) | (with_reducible exact Calls.regrown_of (k97 _ _)) | (with_reducible exact Calls.regrown_of (k93t _)) | (with_reducible exact Calls.regrown_of (k93d _)) | (with_reducible exact Calls.regrown_of (k95_1 _)) | (with_reducible exact Calls.regrown_of (k95_2 _)) | (with_reducible exact Calls.regrown_of (k95_3 _)) | (with_reducible exact Calls.regrown_of (k95_4 _)) | (with_reducible exact Calls.regrown_of (k95_5 _)) | (with_reducible exact Calls.regrown_of (k95_6 _)) | (with_reducible exact Calls.regrown_of (k95_7 _)) | (with_reducible exact Calls.regrown_of (k95_8 _))))
                        refine wpQuiet_nil ?_
                        intro _ hw'
                        obtain ⟨⟨dq, osq⟩, hw''⟩ := hw'
                        subst hw''
                        go_wp2_with (fail)
                        go_ret
                        exact CheckPost.of (r := false) (by have h := HR.out; simpa using h) rfl HB.out (below_regrown W dq osq)
                      | true =>
                        repeat (go_big_quiet_step (first | (with_reducible exact Calls.regrown_of (k40 _)) | (with_reducible exact Calls.regrown_of (k36 _)) | (with_reducible exact Calls.regrown_of (k38 _)) | (with_reducible exact Calls.regrown_of (k40u _)) | (with_reducible exact Calls.regrown_of (k96 _)) | (with_reducible exact Calls.regrown_of (k97 _ _)) | (with_reducible exact Calls.regrown_of (k93t _)) | (with_reducible exact Calls.regrown_of (k93d _)) | (with_reducible exact Calls.regrown_of (k95_1 _)) | (with_reducible exact Calls.regrown_of (k95_2 _)) | (with_reducible exact Calls.regrown_of (k95_3 _)) | (with_reducible exact Calls.regrown_of (k95_4 _)) | (with_reducible exact Calls.regrown_of (k95_5 _)) | (with_reducible exact Calls.regrown_of (k95_6 _)) | (with_reducible exact Calls.regrown_of (k95_7 _)) | (with_reducible exact Calls.regrown_of (k95_8 _))))
                        cases x8 with
                        | false =>
                          repeat (go_big_quiet_step (first | (with_reducible exact Calls.regrown_of (k40 _)) | (with_reducible exact Calls.regrown_of (k36 _)) | (with_reducible exact Calls.regrown_of (k38 _)) | (with_reducible exact Calls.regrown_of (k40u _)) | (with_reducible exact Calls.regrown_of (k96 _)) | (with_reducible exact Calls.regrown_of (k97 _ _)) | (with_reducible exact Calls.regrown_of (k93t _)) | (with_reducible exact Calls.regrown_of (k93d _)) | (with_reducible exact Calls.regrown_of (k95_1 _)) | (with_reducible exact Calls.regrown_of (k95_2 _)) | (with_reducible exact Calls.regrown_of (k95_3 _)) | (with_reducible exact Calls.regrown_of (k95_4 _)) | (with_reducible exact Calls.regrown_of (k95_5 _)) | (with_reducible exact Calls.regrown_of (k95_6 _)) | (with_reducible exact Calls.regrown_of (k95_7 _)) | (with_reducible exact Calls.regrown_of (k95_8 _))))
                          refine wpQuiet_nil ?_
                          intro _ hw'
                          obtain ⟨⟨dq, osq⟩, hw''⟩ := hw'
                          subst hw''
                          go_wp2_with (fail)
                          go_ret
                          exact CheckPost.of (r := false) (by have h := HR.out; simpa using h) rfl HB.out (below_regrown W dq osq)
                        | true =>
                          repeat (go_big_quiet_step (first | (with_reducible exact Calls.regrown_of (k40 _)) | (with_reducible exact Calls.regrown_of (k36 _)) | (with_reducible exact Calls.regrown_of (k38 _)) | (with_reducible exact Calls.regrown_of (k40u _)) | (with_reducible exact Calls.regrown_of (k96 _)) | (with_reducible exact Calls.regrown_of (k97 _ _)) | (with_reducible exact Calls.regrown_of (k93t _)) | (with_reducible exact Calls.regrown_of (k93d _)) | (with_reducible exact Calls.regrown_of (k95_1 _)) | (with_reducible exact Calls.regrown_of (k95_2 _)) | (with_reducible exact Calls.regrown_of (k95_3 _)) | (with_reducible exact Calls.regrown_of (k95_4 _)) | (with_reducible exact Calls.regrown_of (k95_5 _)) | (with_reducible exact Calls.regrown_of (k95_6 _)) | (with_reducible exact Calls.regrown_of (k95_7 _)) | (with_reducible exact Calls.regrown_of (k95_8 _))))
                          refine wpQuiet_nil ?_
                          intro _ hw'
                          obtain ⟨⟨dq, osq⟩, hw''⟩ := hw'
                          subst hw''
                          go_wp2_with (fail)
                          go_ret
                          exact CheckPost.of (r := true) (by have h := HR.out; simpa using h) rfl HB.out (below_regrown W dq osq)
            | true =>
              simp only [Bool.true_and] at k95_4
              repeat (go_big_quiet_step (first | (with_reducible exact Calls.regrown_of (k40 _)) | (with_reducible exact Calls.regrown_of (k36 _)) | (with_reducible exact Calls.regrown_of (k38 _)) | (with_reducible exact Calls.regrown_of (k40u _)) | (with_reducible exact Calls.regrown_of (k96 _)) | (with_reducible exact Calls.regrown_of (k97 _ _)) | (with_reducible exact Calls.regrown_of (k93t _)) | (with_reducible exact Calls.regrown_of (k93d _)) | (with_reducible exact Calls.regrown_of (k95_1 _)) | (with_reducible exact Calls.regrown_of (k95_2 _)) | (with_reducible exact Calls.regrown_of (k95_3 _)) | (with_reducible exact Calls.regrown_of (k95_4 _)) | (with_reducible exact Calls.regrown_of (k95_5 _)) | (with_reducible exact Calls.regrown_of (k95_6 _)) | (with_reducible exact Calls.regrown_of (k95_7 _)) | (with_reducible exact Calls.regrown_of (k95_8 _))))
              cases x4 with
              | false =>
                repeat (go_big_quiet_step (first | (with_reducible exact Calls.regrown_of (k40 _)) | (with_reducible exact Calls.regrown_of (k36 _)) | (with_reducible exact Calls.regrown_of (k38 _)) | (with_reducible exact Calls.regrown_of (k40u _)) | (with_reducible exact Calls.regrown_of (k96 _)) | (with_reducible exact Calls.regrown_of (k97 _ _)) | (with_reducible exact Calls.regrown_of (k93t _)) | (with_reducible exact Calls.regrown_of (k93d _)) | (with_reducible exact Calls.regrown_of (k95_1 _)) | (with_reducible exact Calls.regrown_of (k95_2 _)) | (with_reducible exact Calls.regrown_of (k95_3 _)) | (with_reducible exact Calls.regrown_of (k95_4 _)) | (with_reducible exact Calls.regrown_of (k95_5 _)) | (with_reducible exact Calls.regrown_of (k95_6 _)) | (with_reducible exact Calls.regrown_of (k95_7 _)) | (with_reducible exact Calls.regrown_of (k95_8 _))))
                refine wpQuiet_nil ?_
                intro _ hw'
                obtain ⟨⟨dq, osq⟩, hw''⟩ := hw'
                subst hw''
                go_wp2_with (fail)
                go_ret
                exact CheckPost.of (r := false) (by have h := HR.out; simpa using h) rfl HB.out (below_regrown W dq osq)
              | true =>
                repeat (go_big_quiet_step (first | (with_reducible exact Calls.regrown_of (k40 _)) | (with_reducible exact Calls.regrown_of (k36 _)) | (with_reducible exact Calls.regrown_of (k38 _)) | (with_reducible exact Calls.regrown_of (k40u _)) | (with_reducible exact Calls.regrown_of (k96 _)) | (with_reducible exact Calls.regrown_of (k97 _ _)) | (with_reducible exact Calls.regrown_of (k93t _)) | (with_reducible exact Calls.regrown_of (k93d _)) | (with_reducible exact Calls.regrown_of (k95_1 _)) | (with_reducible exact Calls.regrown_of (k95_2 _)) | (with_reducible exact Calls.regrown_of (k95_3 _)) | (with_reducible exact Calls.regrown_of (k95_4 _)) | (with_reducible exact Calls.regrown_of (k95_5 _)) | (with_reducible exact Calls.regrown_of (k95_6 _)) | (with_reducible exact Calls.regrown_of (k95_7 _)) | (with_reducible exact Calls.regrown_of (k95_8 _))))
                cases p1 with
                | false =>
                  simp only [Bool.false_and] at k95_5
                  repeat (go_big_quiet_step (first | (with_reducible exact Calls.regrown_of (k40 _)) | (with_reducible exact Calls.regrown_of (k36 _)) | (with_reducible exact Calls.regrown_of (k38 _)) | (with_reducible exact Calls.regrown_of (k40u _)) | (with_reducible exact Calls.regrown_of (k96 _)) | (with_reducible exact Calls.regrown_of (k97 _ _)) | (with_reducible exact Calls.regrown_of (k93t _)) | (with_reducible exact Calls.regrown_of (k93d _)) | (with_reducible exact Calls.regrown_of (k95_1 _)) | (with_reducible exact Calls.regrown_of (k95_2 _)) | (with_reducible exact Calls.regrown_of (k95_3 _)) | (with_reducible exact Calls.regrown_of (k95_4 _)) | (with_reducible exact Calls.regrown_of (k95_5 _)) | (with_reducible exact Calls.regrown_of (k95_6 _)) | (with_reducible exact Calls.regrown_of (k95_7 _)) | (with_reducible exact Calls.regrown_of (k95_8 _))))
                  cases x5 with
                  | false =>
                    repeat (go_big_quiet_step (first | (with_reducible exact Calls.regrown_of (k40 _)) | (with_reducible exact Calls.regrown_of (k36 _)) | (with_reducible exact Calls.regrown_of (k38 _)) | (with_reducible exact Calls.regrown_of (k40u _)) | (with_reducible exact Calls.regrown_of (k96 _)) | (with_reducible exact Calls.regrown_of (k97 _ _)) | (with_reducible exact Calls.regrown_of (k93t _)) | (with_reducible exact Calls.regrown_of (k93d _)) | (with_reducible exact Calls.regrown_of (k95_1 _)) | (with_reducible exact Calls.regrown_of (k95_2 _)) | (with_reducible exact Calls.regrown_of (k95_3 _)) | (with_reducible exact Calls.regrown_of (k95_4 _)) | (with_reducible exact Calls.regrown_of (k95_5 _)) | (with_reducible exact Calls.regrown_of (k95_6 _)) | (with_reducible exact Calls.regrown_of (k95_7 _)) | (with_reducible exact Calls.regrown_of (k95_8 _))))
                    refine wpQuiet_nil ?_
                    intro _ hw'
                    obtain ⟨⟨dq, osq⟩, hw''⟩ := hw'
                    subst hw''
                    go_wp2_with (fail)
                    go_ret
                    exact CheckPost.of (r := false) (by have h := HR.out; simpa using h) rfl HB.out (below_regrown W dq osq)
                  | true =>
                    repeat (go_big_quiet_step (first | (with_reducible exact Calls.regrown_of (k40 _)) | (with_reducible exact Calls.regrown_of (k36 _)) | (with_reducible exact Calls.regrown_of (k38 _)) | (with_reducible exact Calls.regrown_of (k40u _)) | (with_reducible exact Calls.regrown_of (k96 _)) | (with_reducible exact Calls.regrown_of (k97 _ _)) | (with_reducible exact Calls.regrown_of (k93t _)) | (with_reducible exact Calls.regrown_of (k93d _)) | (with_reducible exact Calls.regrown_of (k95_1 _)) | (with_reducible exact Calls.regrown_of (k95_2 _)) | (with_reducible exact Calls.regrown_of (k95_3 _)) | (with_reducible exact Calls.regrown_of (k95_4 _)) | (with_reducible exact Calls.regrown_of (k95_5 _)) | (with_reducible exact Calls.regrown_of (k95_6 _)) | (with_reducible exact Calls.regrown_of (k95_7 _)) | (with_reducible exact Calls.regrown_of (k95_8 _))))
                    cases x6 with
                    | false =>
                      repeat (go_big_quiet_step (first | (with_reducible exact Calls.regrown_of (k40 _)) | (with_reducible exact Calls.regrown_of (k36 _)) | (with_reducible exact Calls.regrown_of (k38 _)) | (with_reducible exact Calls.regrown_of (k40u _)) | (with_reducible exact Calls.regrown_of (k96 _)) | (with_reducible exact Calls.regrown_of (k97 _ _)) | (with_reducible exact Calls.regrown_of (k93t _)) | (with_reducible exact Calls.regrown_of (k93d _)) | (with_reducible exact Calls.regrown_of (k95_1 _)) | (with_reducible exact Calls.regrown_of (k95_2 _)) | (with_reducible exact Calls.regrown_of (k95_3 _)) | (with_reducible exact Calls.regrown_of (k95_4 _)) | (with_reducible exact Calls.regrown_of (k95_5 _)) | (with_reducible exact Calls.regrown_of (k95_6 _)) | (with_reducible exact Calls.regrown_of (k95_7 _)) | (with_reducible exact Calls.regrown_of (k95_8 _))))
                      refine wpQuiet_nil ?_
                      intro _ hw'
                      obtain ⟨⟨dq, osq⟩, hw''⟩ := hw'
                      subst hw''
                      go_wp2_with (fail)
                      go_ret
                      exact CheckPost.of (r := false) (by have h := HR.out; simpa using h) rfl HB.out (below_regrown W dq osq)
                    | true =>
                      repeat (go_big_quiet_step (first | (with_reducible exact Calls.regrown_of (k40 _)) | (with_reducible exact Calls.regrown_of (k36 _)) | (with_reducible exact Calls.regrown_of (k38 _)) | (with_reducible exact Calls.regrown_of (k40u _)) | (with_reducible exact Calls.regrown_of (k96 _)) | (with_reducible exact Calls.regrown_of (k97 _ _)) | (with_reducible exact Calls.regrown_of (k93t _)) | (with_reducible exact Calls.regrown_of (k93d _)) | (with_reducible exact Calls.regrown_of (k95_1 _)) | (with_reducible exact Calls.regrown_of (k95_2 _)) | (with_reducible exact Calls.regrown_of (k95_3 _)) | (with_reducible exact Calls.regrown_of (k95_4 _)) | (with_reducible exact Calls.regrown_of (k95_5 _)) | (with_reducible exact Calls.regrown_of (k95_6 _)) | (with_reducible exact Calls.regrown_of (k95_7 _)) | (with_reducible exact Calls.regrown_of (k95_8 _))))
                      cases x7 with
                      | false =>
                        repeat (go_big_quiet_step (first | (with_reducible exact Calls.regrown_of (k40 _)) | (with_reducible exact Calls.regrown_of (k36 _)) | (with_reducible exact Calls.regrown_of (k38 _)) | (with_reducible exact Calls.regrown_of (k40u _)) | (with_reducible exact Calls.regrown_of (k96 _)) | (with_reducible exact Calls.regrown_of (k97 _ _)) | (with_reducible exact Calls.regrown_of (k93t _)) | (with_reducible exact Calls.regrown_of (k93d _)) | (with_reducible exact Calls.regrown_of (k95_1 _)) | (with_reducible exact Calls.regrown_of (k95_2 _)) | (with_reducible exact Calls.regrown_of (k95_3 _)) | (with_reducible exact Calls.regrown_of (k95_4 _)) | (with_reducible exact Calls.regrown_of (k95_5 _)) | (with_reducible exact Calls.regrown_of (k95_6 _)) | (with_reducible exact Calls.regrown_of (k95_7 _)) | (with_reducible exact Calls.regrown_of (k95_8 _))))
                        refine wpQuiet_nil ?_
                        intro _ hw'
                        obtain ⟨⟨dq, osq⟩, hw''⟩ := hw'
                        subst hw''
                        go_wp2_with (fail)
                        go_ret
                        exact CheckPost.of (r := false) (by have h := HR.out; simpa using h) rfl HB.out (below_regrown W dq osq)
                      | true =>
                        repeat (go_big_quiet_step (first | (with_reducible exact Calls.regrown_of (k40 _)) | (with_reducible exact Calls.regrown_of (k36 _)) | (with_reducible exact Calls.regrown_of (k38 _)) | (with_reducible exact Calls.regrown_of (k40u _)) | (with_reducible exact Calls.regrown_of (k96 _)) | (with_reducible exact Calls.regrown_of (k97 _ _)) | (with_reducible exact Calls.regrown_of (k93t _)) | (with_reducible exact Calls.regrown_of (k93d _)) | (with_reducible exact Calls.regrown_of (k95_1 _)) | (with_reducible exact Calls.regrown_of (k95_2 _)) | (with_reducible exact Calls.regrown_of (k95_3 _)) | (with_reducible exact Calls.regrown_of (k95_4 _)) | (with_reducible exact Calls.regrown_of (k95_5 _)) | (with_reducible exact Calls.regrown_of (k95_6 _)) | (with_reducible exact Calls.regrown_of (k95_7 _)) | (with_reducible exact Calls.regrown_of (k95_8 _))))
                        cases x8 with
                        | false =>
                          repeat (go_big_quiet_step (first | (with_reducible exact Calls.regrown_of (k40 _)) | (with_reducible exact Calls.regrown_of (k36 _)) | (with_reducible exact Calls.regrown_of (k38 _)) | (with_reducible exact Calls.regrown_of (k40u _)) | (with_reducible exact Calls.regrown_of (k96 _)) | (with_reducible exact Calls.regrown_of (k97 _ _)) | (with_reducible exact Calls.regrown_of (k93t _)) | (with_reducible exact Calls.regrown_of (k93d _)) | (with_reducible exact Calls.regrown_of (k95_1 _)) | (with_reducible exact Calls.regrown_of (k95_2 _)) | (with_reducible exact Calls.regrown_of (k95_3 _)) | (with_reducible exact Calls.regrown_of (k95_4 _)) | (with_reducible exact Calls.regrown_of (k95_5 _)) | (with_reducible exact Calls.regrown_of (k95_6 _)) | (with_reducible exact Calls.regrown_of (k95_7 _)) | (with_reducible exact Calls.regrown_of (k95_8 _))))
                          refine wpQuiet_nil ?_
                          intro _ hw'
                          obtain ⟨⟨dq, osq⟩, hw''⟩ := hw'
                          subst hw''
                          go_wp2_with (fail)
                          go_ret
                          exact CheckPost.of (r := false) (by have h := HR.out; simpa using h) rfl HB.out (below_regrown W dq osq)
                        | true =>
                          repeat (go_big_quiet_step (first | (with_reducible exact Calls.regrown_of (k40 _)) | (with_reducible exact Calls.regrown_of (k36 _)) | (with_reducible exact Calls.regrown_of (k38 _)) | (with_reducible exact Calls.regrown_of (k40u _)) | (with_reducible exact Calls.regrown_of (k96 _)) | (with_reducible exact Calls.regrown_of (k97 _ _)) | (with_reducible exact Calls.regrown_of (k93t _)) | (with_reducible exact Calls.regrown_of (k93d _)) | (with_reducible exact Calls.regrown_of (k95_1 _)) | (with_reducible exact Calls.regrown_of (k95_2 _)) | (with_reducible exact Calls.regrown_of (k95_3 _)) | (with_reducible exact Calls.regrown_of (k95_4 _)) | (with_reducible exact Calls.regrown_of (k95_5 _)) | (with_reducible exact Calls.regrown_of (k95_6 _)) | (with_reducible exact Calls.regrown_of (k95_7 _)) | (with_reducible exact Calls.regrown_of (k95_8 _))))
                          refine wpQuiet_nil ?_
                          intro _ hw'
                          obtain ⟨⟨dq, osq⟩, hw''⟩ := hw'
                          subst hw''
                          go_wp2_with (fail)
                          go_ret
                          exact CheckPost.of (r := true) (by have h := HR.out; simpa using h) rfl HB.out (below_regrown W dq osq)
                | true =>
                  simp only [Bool.true_and] at k95_5
                  repeat (go_big_quiet_step (first | (with_reducible exact Calls.regrown_of (k40 _)) | (with_reducible exact Calls.regrown_of (k36 _)) | (with_reducible exact Calls.regrown_of (k38 _)) | (with_reducible exact Calls.regrown_of (k40u _)) | (with_reducible exact Calls.regrown_of (k96 _)) | (with_reducible exact Calls.regrown_of (k97 _ _)) | (with_reducible exact Calls.regrown_of (k93t _)) | (with_reducible exact Calls.regrown_of (k93d _)) | (with_reducible exact Calls.regrown_of (k95_1 _)) | (with_reducible exact Calls.regrown_of (k95_2 _)) | (with_reducible exact Calls.regrown_of (k95_3 _)) | (with_reducible exact Calls.regrown_of (k95_4 _)) | (with_reducible exact Calls.regrown_of (k95_5 _)) | (with_reducible exact Calls.regrown_of (k95_6 _)) | (with_reducible exact Calls.regrown_of (k95_7 _)) | (with_reducible exact Calls.regrown_of (k95_8 _))))
                  cases x5 with
                  | false =>
                    repeat (go_big_quiet_step (first | (with_reducible exact Calls.regrown_of (k40 _)) | (with_reducible exact Calls.regrown_of (k36 _)) | (with_reducible exact Calls.regrown_of (k38 _)) | (with_reducible exact Calls.regrown_of (k40u _)) | (with_reducible exact Calls.regrown_of (k96 _)) | (with_reducible exact Calls.regrown_of (k97 _ _)) | (with_reducible exact Calls.regrown_of (k93t _)) | (with_reducible exact Calls.regrown_of (k93d _)) | (with_reducible exact Calls.regrown_of (k95_1 _)) | (with_reducible exact Calls.regrown_of (k95_2 _)) | (with_reducible exact Calls.regrown_of (k95_3 _)) | (with_reducible exact Calls.regrown_of (k95_4 _)) | (with_reducible exact Calls.regrown_of (k95_5 _)) | (with_reducible exact Calls.regrown_of (k95_6 _)) | (with_reducible exact Calls.regrown_of (k95_7 _)) | (with_reducible exact Calls.regrown_of (k95_8 _))))
                    refine wpQuiet_nil ?_
                    intro _ hw'
                    obtain ⟨⟨dq, osq⟩, hw''⟩ := hw'
                    subst hw''
                    go_wp2_with (fail)
                    go_ret
                    exact CheckPost.of (r := false) (by have h := HR.out; simpa using h) rfl HB.out (below_regrown W dq osq)
                  | true =>
                    repeat (go_big_quiet_step (first | (with_reducible exact Calls.regrown_of (k40 _)) | (with_reducible exact Calls.regrown_of (k36 _)) | (with_reducible exact Calls.regrown_of (k38 _)) | (with_reducible exact Calls.regrown_of (k40u _)) | (with_reducible exact Calls.regrown_of (k96 _)) | (with_reducible exact Calls.regrown_of (k97 _ _)) | (with_reducible exact Calls.regrown_of (k93t _)) | (with_reducible exact Calls.regrown_of (k93d _)) | (with_reducible exact Calls.regrown_of (k95_1 _)) | (with_reducible exact Calls.regrown_of (k95_2 _)) | (with_reducible exact Calls.regrown_of (k95_3 _)) | (with_reducible exact Calls.regrown_of (k95_4 _)) | (with_reducible exact Calls.regrown_of (k95_5 _)) | (with_reducible exact Calls.regrown_of (k95_6 _)) | (with_reducible exact Calls.regrown_of (k95_7 _)) | (with_reducible exact Calls.regrown_of (k95_8 _))))
                    cases x6 with
                    | false =>
                      repeat (go_big_quiet_step (first | (with_reducible exact Calls.regrown_of (k40 _)) | (with_reducible exact Calls.regrown_of (k36 _)) | (with_reducible exact Calls.regrown_of (k38 _)) | (with_reducible exact Calls.regrown_of (k40u _)) | (with_reducible exact Calls.regrown_of (k96 _)) | (with_reducible exact Calls.regrown_of (k97 _ _)) | (with_reducible exact Calls.regrown_of (k93t _)) | (with_reducible exact Calls.regrown_of (k93d _)) | (with_reducible exact Calls.regrown_of (k95_1 _)) | (with_reducible exact Calls.regrown_of (k95_2 _)) | (with_reducible exact Calls.regrown_of (k95_3 _)) | (with_reducible exact Calls.regrown_of (k95_4 _)) | (with_reducible exact Calls.regrown_of (k95_5 _)) | (with_reducible exact Calls.regrown_of (k95_6 _)) | (with_reducible exact Calls.regrown_of (k95_7 _)) | (with_reducible exact Calls.regrown_of (k95_8 _))))
                      refine wpQuiet_nil ?_
                      intro _ hw'
                      obtain ⟨⟨dq, osq⟩, hw''⟩ := hw'
                      subst hw''
                      go_wp2_with (fail)
                      go_ret
                      exact CheckPost.of (r := false) (by have h := HR.out; simpa using h) rfl HB.out (below_regrown W dq osq)
                    | true =>
                      repeat (go_big_quiet_step (first | (with_reducible exact Calls.regrown_of (k40 _)) | (with_reducible exact Calls.regrown_of (k36 _)) | (with_reducible exact Calls.regrown_of (k38 _)) | (with_reducible exact Calls.regrown_of (k40u _)) | (with_reducible exact Calls.regrown_of (k96 _)) | (with_reducible exact Calls.regrown_of (k97 _ _)) | (with_reducible exact Calls.regrown_of (k93t _)) | (with_reducible exact Calls.regrown_of (k93d _)) | (with_reducible exact Calls.regrown_of (k95_1 _)) | (with_reducible exact Calls.regrown_of (k95_2 _)) | (with_reducible exact Calls.regrown_of (k95_3 _)) | (with_reducible exact Calls.regrown_of (k95_4 _)) | (with_reducible exact Calls.regrown_of (k95_5 _)) | (with_reducible exact Calls.regrown_of (k95_6 _)) | (with_reducible exact Calls.regrown_of (k95_7 _)) | (with_reducible exact Calls.regrown_of (k95_8 _))))
                      cases x7 with
                      | false =>
                        repeat (go_big_quiet_step (first | (with_reducible exact Calls.regrown_of (k40 _)) | (with_reducible exact Calls.regrown_of (k36 _)) | (with_reducible exact Calls.regrown_of (k38 _)) | (with_reducible exact Calls.regrown_of (k40u _)) | (with_reducible exact Calls.regrown_of (k96 _)) | (with_reducible exact Calls.regrown_of (k97 _ _)) | (with_reducible exact Calls.regrown_of (k93t _)) | (with_reducible exact Calls.regrown_of (k93d _)) | (with_reducible exact Calls.regrown_of (k95_1 _)) | (with_reducible exact Calls.regrown_of (k95_2 _)) | (with_reducible exact Calls.regrown_of (k95_3 _)) | (with_reducible exact Calls.regrown_of (k95_4 _)) | (with_reducible exact Calls.regrown_of (k95_5 _)) | (with_reducible exact Calls.regrown_of (k95_6 _)) | (with_reducible exact Calls.regrown_of (k95_7 _)) | (with_reducible exact Calls.regrown_of (k95_8 _))))
                        refine wpQuiet_nil ?_
                        intro _ hw'
                        obtain ⟨⟨dq, osq⟩, hw''⟩ := hw'
                        subst hw''
                        go_wp2_with (fail)
                        go_ret
                        exact CheckPost.of (r := false) (by have h := HR.out; simpa using h) rfl HB.out (below_regrown W dq osq)
                      | true =>
                        repeat (go_big_quiet_step (first | (with_reducible exact Calls.regrown_of (k40 _)) | (with_reducible exact Calls.regrown_of (k36 _)) | (with_reducible exact Calls.regrown_of (k38 _)) | (with_reducible exact Calls.regrown_of (k40u _)) | (with_reducible exact Calls.regrown_of (k96 _)) | (with_reducible exact Calls.regrown_of (k97 _ _)) | (with_reducible exact Calls.regrown_of (k93t _)) | (with_reducible exact Calls.regrown_of (k93d _)) | (with_reducible exact Calls.regrown_of (k95_1 _)) | (with_reducible exact Calls.regrown_of (k95_2 _)) | (with_reducible exact Calls.regrown_of (k95_3 _)) | (with_reducible exact Calls.regrown_of (k95_4 _)) | (with_reducible exact Calls.regrown_of (k95_5 _)) | (with_reducible exact Calls.regrown_of (k95_6 _)) | (with_reducible exact Calls.regrown_of (k95_7 _)) | (with_reducible exact Calls.regrown_of (k95_8 _))))
                        cases x8 with
                        | false =>
                          repeat (go_big_quiet_step (first | (with_reducible exact Calls.regrown_of (k40 _)) | (with_reducible exact Calls.regrown_of (k36 _)) | (with_reducible exact Calls.regrown_of (k38 _)) | (with_reducible exact Calls.regrown_of (k40u _)) | (with_reducible exact Calls.regrown_of (k96 _)) | (with_reducible exact Calls.regrown_of (k97 _ _)) | (with_reducible exact Calls.regrown_of (k93t _)) | (with_reducible exact Calls.regrown_of (k93d _)) | (with_reducible exact Calls.regrown_of (k95_1 _)) | (with_reducible exact Calls.regrown_of (k95_2 _)) | (with_reducible exact Calls.regrown_of (k95_3 _)) | (with_reducible exact Calls.regrown_of (k95_4 _)) | (with_reducible exact Calls.regrown_of (k95_5 _)) | (with_reducible exact Calls.regrown_of (k95_6 _)) | (with_reducible exact Calls.regrown_of (k95_7 _)) | (with_reducible exact Calls.regrown_of (k95_8 _))))
                          refine wpQuiet_nil ?_
                          intro _ hw'
                          obtain ⟨⟨dq, osq⟩, hw''⟩ := hw'
                          subst hw''
                          go_wp2_with (fail)
                          go_ret
                          exact CheckPost.of (r := false) (by have h := HR.out; simpa using h) rfl HB.out (below_regrown W dq osq)
                        | true =>
                          repeat (go_big_quiet_step (first | (with_reducible exact Calls.regrown_of (k40 _)) | (with_reducible exact Calls.regrown_of (k36 _)) | (with_reducible exact Calls.regrown_of (k38 _)) | (with_reducible exact Calls.regrown_of (k40u _)) | (with_reducible exact Calls.regrown_of (k96 _)) | (with_reducible exact Calls.regrown_of (k97 _ _)) | (with_reducible exact Calls.regrown_of (k93t _)) | (with_reducible exact Calls.regrown_of (k93d _)) | (with_reducible exact Calls.regrown_of (k95_1 _)) | (with_reducible exact Calls.regrown_of (k95_2 _)) | (with_reducible exact Calls.regrown_of (k95_3 _)) | (with_reducible exact Calls.regrown_of (k95_4 _)) | (with_reducible exact Calls.regrown_of (k95_5 _)) | (with_reducible exact Calls.regrown_of (k95_6 _)) | (with_reducible exact Calls.regrown_of (k95_7 _)) | (with_reducible exact Calls.regrown_of (k95_8 _))))
                          refine wpQuiet_nil ?_
                          intro _ hw'
                          obtain ⟨⟨dq, osq⟩, hw''⟩ := hw'
                          subst hw''
                          go_wp2_with (fail)
                          go_ret
                          exact CheckPost.of (r := true) (by have h := HR.out; simpa using h) rfl HB.out (below_regrown W dq osq)

end Go.Proofs.YtnlncfjibbdimaaDoor

