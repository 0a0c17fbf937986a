/-
  The walk of the document's InForm, for every command.
-/
import Derived.Test.YtnlncfjibbdimaaDoorCheck
import Derived.Test.YtnlncfjibbdimaaDoorRPiece
import Derived.Test.YtnlncfjibbdimaaDoorLaws
import Derived.BigRegion
import Derived.Deep.RegionHeld3
import Derived.Test.YtnlncfjibbdimaaDoorQList
namespace Go.Proofs.YtnlncfjibbdimaaDoor
open Go.RowKit
set_option linter.unusedSimpArgs false
set_option linter.unusedVariables false

def InPost (r : Bool) (w : World) (e : Ending) (w' : World) : Prop := e = .returned (.bool r) ∧ Below w.heap.size w w'
theorem InPost.of {r r' : Bool} {w w' : World} (h : r = r') (hb : Below w.heap.size w w') : InPost r' w (.returned (.bool r)) w' := ⟨by rw [h], hb⟩

def namedB (k : Int) : Bool := decide (k ≠ 10) && decide (k ≠ 11)
def keyedB (k : Int) : Bool := decide (3 ≤ k) && decide (k ≤ 8)
/-- A field where it is wanted. -/
def wf (k : Int) (i : Nat) (v : Int) : Int := if fld k i = true then v else 0
def wfs (b : Bool) (s : ByteArray) : ByteArray := if b = true then s else ⟨#[]⟩
/-- What stands ahead of the last line of InForm. -/
def okAll (k : Int) (g2 g3 gp eb p1 p16 g6 : Bool) : Bool := (!namedB k || g2) && (!keyedB k || g3) && (!fld k 3 || gp && eb) && (!fld k 4 || p1 && p16) && (!fld k 5 || g6)

def inB (c : Cmd) : Bool :=
  decide (1 ≤ c.kind ∧ c.kind ≤ 11) && (gid c.idn c.idb c.ids && okAll c.kind (gbR c.bucket) (gk c.key) (pieceB c.pbn c.pbb c.pbs c.psize c.etag) (eq3 c.pbn c.pbb c.pbs c.idn c.idb c.ids) (decide (c.part ≥ 1)) (decide (c.part ≤ 16)) (partsB c.parts) &&
    tick c.time && tick c.days && gid c.upn c.upb c.ups && ((wfs (namedB c.kind) c.bucket).toList == c.bucket.toList) && ((wfs (keyedB c.kind) c.key).toList == c.key.toList) && eq3 (wf c.kind 2 c.upn) (wf c.kind 2 c.upb) (wf c.kind 2 c.ups) c.upn c.upb c.ups &&
    eq5 (wf c.kind 3 c.pbn) (wf c.kind 3 c.pbb) (wf c.kind 3 c.pbs) (wf c.kind 3 c.psize) (wfs (fld c.kind 3) c.etag) c.pbn c.pbb c.pbs c.psize c.etag && (wf c.kind 4 c.part == c.part) && (wf c.kind 6 c.time == c.time) && (wf c.kind 7 c.days == c.days) && (wf c.kind 5 c.parts.length == c.parts.length))

theorem rises_take : ∀ (l : List Int) (p : Int) (k : Nat) (x : Int), l[k]? = some x → risesFrom p (l.take (k + 1)) = (risesFrom p (l.take k) && decide ((if k = 0 then p else l.getD (k - 1) 0) < x ∧ x ≤ 16))
  | [], p, k, x, h => by simp at h
  | a :: l, p, 0, x, h => by
    have : a = x := by simpa using h
    subst this
    simp [risesFrom]
  | a :: l, p, k + 1, x, h => by
    have h' : l[k]? = some x := by simpa using h
    have ih := rises_take l a k x h'
    simp only [List.take_succ_cons, risesFrom]
    rw [ih, Bool.and_assoc]
    cases k with
    | zero => simp
    | succ k => simp
theorem rises_low : ∀ (l : List Int) (p : Int) (k : Nat), 0 ≤ p → risesFrom p (l.take k) = true → 0 < k → k ≤ l.length → 1 ≤ l.getD (k - 1) 0
  | [], p, k, _, _, h1, h2 => by simp at h2; omega
  | a :: l, p, 0, _, _, h1, _ => by omega
  | a :: l, p, k + 1, h0, h, _, h2 => by
    simp only [List.take_succ_cons, risesFrom, Bool.and_eq_true, decide_eq_true_eq] at h
    simp only [Nat.add_sub_cancel]
    cases k with
    | zero => simp; omega
    | succ k =>
      have := rises_low l a (k + 1) (by omega) h.2 (by omega) (by simp at h2; omega)
      simpa using this
/-- ok at part k: what stood ahead, and the first k rise. -/
def rUp (r : Bool) (l : List Int) (k : Nat) : Bool := r && risesFrom 0 (l.take k)

theorem build81 (k a b c : Int) (w : World) : (Instr.build 81 #[(0, .int .i64 k), (1, .agg #[.int .i64 a, .int .i64 b, .int .i64 c])]).run Tryd.prog w =
    .ok (.agg #[.int .i64 k, .int .i64 a, .int .i64 b, .int .i64 c, .string ⟨#[]⟩, .string ⟨#[]⟩, .int .i64 0, .int .i64 0, .int .i64 0, .int .i64 0, .int .i64 0, .int .i64 0, .int .i64 0, .string ⟨#[]⟩, .int .i64 0, .slice none 0 0, .int .i64 0, .int .i64 0]) w := run_build w 81 _ _ (by kernel_rfl)
section
variable {ops : Array Oper} {rest : List Oper} {a : Act} {W : World} {Q : Exit → Act → World → Prop} {d : Option Tmp} {tp : TypeId} {ps : String} {af : Array Edge}
theorem law_build81 (x y : Operand) (k i b c : Int) (hx : a.eval x = .int .i64 k) (hy : a.eval y = .agg #[.int .i64 i, .int .i64 b, .int .i64 c])
    (h : wpList Tryd.prog ops Q rest (a.put d (.agg #[.int .i64 k, .int .i64 i, .int .i64 b, .int .i64 c, .string ⟨#[]⟩, .string ⟨#[]⟩, .int .i64 0, .int .i64 0, .int .i64 0, .int .i64 0, .int .i64 0, .int .i64 0, .int .i64 0, .string ⟨#[]⟩, .int .i64 0, .slice none 0 0, .int .i64 0, .int .i64 0])) W) :
    wpList Tryd.prog ops Q ({ dst := d, op := .build 81 #[(0, x), (1, y)], type := tp, pos := ps, after := af, guard := none } :: rest) a W :=
  wpList_plain rfl fun _ hK => by
    have hr := build81 k i b c W
    unfold Oper.wp execOp
    simp only [List.map_toArray, List.map_cons, List.map_nil, hx, hy, Sem.run_bind, hr, Result.andThen_ok, Sem.run_pure]
    exact hK _ _ h
/-- A command's block is made. -/
theorem law_alloc81 (h : wpList Tryd.prog ops Q rest (a.put d (.pointer (some ⟨W.heap.size, 0, none⟩))) (W.alloc (.cells #[.int .i64 0, .int .i64 0, .int .i64 0, .int .i64 0, .string ⟨#[]⟩, .string ⟨#[]⟩, .int .i64 0, .int .i64 0, .int .i64 0, .int .i64 0, .int .i64 0, .int .i64 0, .int .i64 0, .string ⟨#[]⟩, .int .i64 0, .slice none 0 0, .int .i64 0, .int .i64 0] 81))) :
    wpList Tryd.prog ops Q ({ dst := d, op := .alloc 81, type := tp, pos := ps, after := af, guard := none } :: rest) a W :=
  wpList_plain rfl fun _ hK => by
    unfold Oper.wp execOp
    simp [go_sem]
    exact hK _ _ h
end

set_option maxRecDepth 100000 in
set_option maxHeartbeats 8000000 in
theorem inForm_core (kind idn idb ids : Int) (bucket key : ByteArray) (upn upb ups pbn pbb pbs psize : Int) (etag : ByteArray) (part : Int) (parts : List Int) (time days : Int) (pA : Option Addr) (pc : Nat)
    (z1 : bucket.size ≤ maxLen) (z2 : key.size ≤ maxLen) (z3 : etag.size ≤ maxLen)
    (w : World) (lo hi : Nat) (hp : IntsAt w lo hi (.slice pA parts.length pc) parts) (hhi : hi ≤ w.heap.size) (r : Bool)
    (hr : r = (decide (1 ≤ kind ∧ kind ≤ 11) && (gid idn idb ids && okAll kind (gbR bucket) (gk key) (pieceB pbn pbb pbs psize etag) (eq3 pbn pbb pbs idn idb ids) (decide (part ≥ 1)) (decide (part ≤ 16)) (partsB parts) &&
      tick time && tick days && gid upn upb ups && ((wfs (namedB kind) bucket).toList == bucket.toList) && ((wfs (keyedB kind) key).toList == key.toList) && eq3 (wf kind 2 upn) (wf kind 2 upb) (wf kind 2 ups) upn upb ups &&
      eq5 (wf kind 3 pbn) (wf kind 3 pbb) (wf kind 3 pbs) (wf kind 3 psize) (wfs (fld kind 3) etag) pbn pbb pbs psize etag && (wf kind 4 part == part) && (wf kind 6 time == time) && (wf kind 7 days == days) && (wf kind 5 parts.length == parts.length)))) :
    Calls Tryd.prog 46 #[.agg #[.int .i64 kind, .int .i64 idn, .int .i64 idb, .int .i64 ids, .string bucket, .string key, .int .i64 upn, .int .i64 upb, .int .i64 ups, .int .i64 pbn, .int .i64 pbb, .int .i64 pbs, .int .i64 psize, .string etag, .int .i64 part, .slice pA parts.length pc, .int .i64 time, .int .i64 days]] w (InPost r w) := by
  obtain ⟨g1, hg1⟩ : ∃ x, x = gid idn idb ids := ⟨_, rfl⟩
  have k41 := fun w => rgoodId_any idn idb ids w
  unfold IdPost at k41
  rw [← hg1] at k41 hr
  obtain ⟨g2, hg2⟩ : ∃ x, x = gbR bucket := ⟨_, rfl⟩
  have k37 := fun w => rgoodBucket_any bucket z1 w
  rw [← hg2] at k37 hr
  obtain ⟨g3, hg3⟩ : ∃ x, x = gk key := ⟨_, rfl⟩
  have k39 := fun w => rgoodKey_any key z2 w
  rw [← hg3] at k39 hr
  obtain ⟨gp, hgp⟩ : ∃ x, x = pieceB pbn pbb pbs psize etag := ⟨_, rfl⟩
  have k104 := fun w => rpiece_any pbn pbb pbs psize etag z3 w
  unfold PiecePost at k104
  rw [← hgp] at k104 hr
  obtain ⟨eb, heb⟩ : ∃ x, x = eq3 pbn pbb pbs idn idb ids := ⟨_, rfl⟩
  have q74 := fun w => eq74 pbn pbb pbs idn idb ids w
  rw [← heb] at q74 hr
  obtain ⟨zb, hzb⟩ : ∃ x, x = wfs (namedB kind) bucket := ⟨_, rfl⟩
  obtain ⟨zk, hzk⟩ : ∃ x, x = wfs (keyedB kind) key := ⟨_, rfl⟩
  obtain ⟨nb, hnb⟩ : ∃ x, x = namedB kind := ⟨_, rfl⟩
  obtain ⟨kb, hkb⟩ : ∃ x, x = keyedB kind := ⟨_, rfl⟩
  rw [← hzb, ← hzk] at hr
  rw [← hnb] at hzb
  rw [← hkb] at hzk
  have HZB := Lib.hid hzb
  have HZK := Lib.hid hzk
  have HNB := Lib.hid hnb
  have HKB := Lib.hid hkb
  have HR := Lib.hid hr
  have hone : (#[.int .i64 kind, .int .i64 idn, .int .i64 idb, .int .i64 ids, .string ⟨#[]⟩, .string ⟨#[]⟩, .int .i64 0, .int .i64 0, .int .i64 0, .int .i64 0, .int .i64 0, .int .i64 0, .int .i64 0, .string ⟨#[]⟩, .int .i64 0, .slice none 0 0, .int .i64 0, .int .i64 0] : Array Value).all (·.oneCell') = true := by simp [Value.oneCell']
  have HONE := Lib.hid hone
  clear hr hg2 hg3 hgp heb z1 z2 z3 hzb hzk hnb hkb hone
  go_enter Tryd.func46, Tryd.ntmps46
  go_upto_region 1 with (fail)
  refine wp_letter (fun W => Below w.heap.size w W ∧ Blk W w.heap.size 81 #[.int .i64 kind, .int .i64 idn, .int .i64 idb, .int .i64 ids, .string bucket, .string key, .int .i64 upn, .int .i64 upb, .int .i64 ups, .int .i64 pbn, .int .i64 pbb, .int .i64 pbs, .int .i64 psize, .string etag, .int .i64 part, .slice pA parts.length pc, .int .i64 time, .int .i64 days]) ⟨(Below.refl w.heap.size w).alloc (Nat.le_refl _) _, Blk.new w 81 _⟩ ?_
  rintro W ⟨hb, hX⟩
  obtain ⟨x, hx⟩ : ∃ x, x = w.heap.size := ⟨_, rfl⟩
  have hxw : w.heap.size ≤ x := by omega
  rw [← hx] at hX ⊢
  clear hx hg1
  have cX := hX.cell
  have HB := Lib.hid hb
  have HX := Lib.hid hX
  clear hX hb
  go_wp2_with (fail)
  refine (k41 _).mono ?_
  rintro e w2 ⟨rfl, b2⟩
  have hX2 := HX.out.below b2 HX.out.lt
  have hb2 := HB.out.trans (b2.mono HB.out.size)
  clear cX b2
  have cX := hX2.cell
  have HX2 := Lib.hid hX2
  have HB2 := Lib.hid hb2
  clear hX2 hb2 HX HB
  cases g1 with
  | false =>
    go_wp2_with (fail)
    go_ret
    exact InPost.of (by rw [HR.out]; simp) HB2.out
  | true =>
    go_upto_region 4 with (first | ((with_reducible refine law_build81 (.tmp 14) (.tmp 16) kind idn idb ids ?_ ?_ ?_); rfl; rfl; refine law_alloc81 ?_; refine law_store_fresh 81 (.tmp 3) (.tmp 17) w2 81 _ #[.int .i64 kind, .int .i64 idn, .int .i64 idb, .int .i64 ids, .string ⟨#[]⟩, .string ⟨#[]⟩, .int .i64 0, .int .i64 0, .int .i64 0, .int .i64 0, .int .i64 0, .int .i64 0, .int .i64 0, .string ⟨#[]⟩, .int .i64 0, .slice none 0 0, .int .i64 0, .int .i64 0] ?_ ?_ rfl ?_ ?_ HONE.out ?_; rfl; rfl; exact cmd_info; rfl) | fail)
    refine wp_letter (fun W => Below w.heap.size w W ∧ Blk W x 81 #[.int .i64 kind, .int .i64 idn, .int .i64 idb, .int .i64 ids, .string bucket, .string key, .int .i64 upn, .int .i64 upb, .int .i64 ups, .int .i64 pbn, .int .i64 pbb, .int .i64 pbs, .int .i64 psize, .string etag, .int .i64 part, .slice pA parts.length pc, .int .i64 time, .int .i64 days] ∧ Blk W w2.heap.size 81 #[.int .i64 kind, .int .i64 idn, .int .i64 idb, .int .i64 ids, .string ⟨#[]⟩, .string ⟨#[]⟩, .int .i64 0, .int .i64 0, .int .i64 0, .int .i64 0, .int .i64 0, .int .i64 0, .int .i64 0, .string ⟨#[]⟩, .int .i64 0, .slice none 0 0, .int .i64 0, .int .i64 0]) ⟨HB2.out.alloc HB2.out.size _, HX2.out.alloc _, Blk.new w2 81 _⟩ ?_
    rintro W3 ⟨hb3, hX3, hZ3⟩
    obtain ⟨z, hz⟩ : ∃ z, z = w2.heap.size := ⟨_, rfl⟩
    have hxz : x < z := by rw [hz]; exact HX2.out.lt
    rw [← hz] at hZ3 ⊢
    have hne : ¬ x = z := by omega
    have hne' : ¬ z = x := by omega
    have hzw : w.heap.size ≤ z := by omega
    clear hz cX HX2 HB2
    have cX := hX3.cell
    have HX3 := Lib.hid hX3
    have HZ3 := Lib.hid hZ3
    have HB3 := Lib.hid hb3
    clear hX3 hZ3 hb3
    go_upto_region 5 with (fail)
    go_cut [5] from 18 to 25 (fun s wx => s = .bool nb ∧ wx = W3)
    case first =>
      by_cases h10 : kind = 10
      · subst h10
        obtain rfl : nb = false := by rw [HNB.out]; decide
        go_wp2_with (fail)
        go_meet
        exact ⟨rfl, rfl⟩
      · by_cases h11 : kind = 11
        · subst h11
          obtain rfl : nb = false := by rw [HNB.out]; decide
          go_wp2_with (fail)
          go_meet
          exact ⟨rfl, rfl⟩
        · obtain rfl : nb = true := by rw [HNB.out]; unfold namedB; simp [h10, h11]
          go_wp2_with (fail)
          go_meet
          exact ⟨by simp [h10, h11], rfl⟩
    case rest =>
    obtain ⟨rfl, rfl⟩ := hcut
    go_upto_if 26 with (fail)
    go_cut [4] from 27 to 32 (fun s wx => s = .bool (!nb || g2) ∧ Below w.heap.size w wx ∧ Blk wx x 81 #[.int .i64 kind, .int .i64 idn, .int .i64 idb, .int .i64 ids, .string bucket, .string key, .int .i64 upn, .int .i64 upb, .int .i64 ups, .int .i64 pbn, .int .i64 pbb, .int .i64 pbs, .int .i64 psize, .string etag, .int .i64 part, .slice pA parts.length pc, .int .i64 time, .int .i64 days] ∧ Blk wx z 81 #[.int .i64 kind, .int .i64 idn, .int .i64 idb, .int .i64 ids, .string zb, .string ⟨#[]⟩, .int .i64 0, .int .i64 0, .int .i64 0, .int .i64 0, .int .i64 0, .int .i64 0, .int .i64 0, .string ⟨#[]⟩, .int .i64 0, .slice none 0 0, .int .i64 0, .int .i64 0])
    case first =>
      cases nb with
      | false =>
        obtain rfl : zb = ⟨#[]⟩ := by rw [HZB.out]; rfl
        go_wp2_with (fail)
        go_meet
        exact ⟨rfl, HB3.out, HX3.out, HZ3.out⟩
      | true =>
        have fZ := HZ3.out.frozen
        have cZ := HZ3.out.cell
        obtain rfl : bucket = zb := by rw [HZB.out]; rfl
        go_upto_region 8 with (fail)
        refine wp_letter (fun W => Below w.heap.size w W ∧ Blk W x 81 #[.int .i64 kind, .int .i64 idn, .int .i64 idb, .int .i64 ids, .string bucket, .string key, .int .i64 upn, .int .i64 upb, .int .i64 ups, .int .i64 pbn, .int .i64 pbb, .int .i64 pbs, .int .i64 psize, .string etag, .int .i64 part, .slice pA parts.length pc, .int .i64 time, .int .i64 days] ∧ Blk W z 81 #[.int .i64 kind, .int .i64 idn, .int .i64 idb, .int .i64 ids, .string bucket, .string ⟨#[]⟩, .int .i64 0, .int .i64 0, .int .i64 0, .int .i64 0, .int .i64 0, .int .i64 0, .int .i64 0, .string ⟨#[]⟩, .int .i64 0, .slice none 0 0, .int .i64 0, .int .i64 0]) ⟨HB3.out.setCell (p := ⟨z, 4, none⟩) hzw _, HX3.out.far (p := ⟨z, 4, none⟩) hne _, HZ3.out.set_ 4 _⟩ ?_
        rintro W4 ⟨hb4, hX4, hZ4⟩
        have HX4 := Lib.hid hX4
        have HZ4 := Lib.hid hZ4
        have HB4 := Lib.hid hb4
        have cX := hX4.cell
        clear fZ cZ hX4 hZ4 hb4 HX3 HZ3 HB3
        go_wp2_with (first | (go_at_call 37; refine (k37 _).mono ?_; rintro e w5 ⟨rfl, rfl⟩) | fail)
        go_meet
        exact ⟨rfl, HB4.out, HX4.out, HZ4.out⟩
    case rest =>
    obtain ⟨rfl, hb4, hX4, hZ4⟩ := hcut
    clear cX HX3 HZ3 HB3 k37
    have cX := hX4.cell
    have HX3 := Lib.hid hX4
    have HZ3 := Lib.hid hZ4
    have HB3 := Lib.hid hb4
    clear hX4 hZ4 hb4
    obtain ⟨ok1, hok1⟩ : ∃ b, b = (!nb || g2) := ⟨_, rfl⟩
    rw [← hok1]
    have HOK1 := Lib.hid hok1
    clear hok1
    go_upto_region 9 with (fail)
    go_cut [6] from 33 to 40 (fun s wy => s = .bool kb ∧ wy = wc)
    case first =>
      by_cases h3 : kind ≥ 3
      · by_cases h8 : kind ≤ 8
        · obtain rfl : kb = true := by rw [HKB.out]; unfold keyedB; simp [h8]; omega
          go_wp2_with (fail)
          go_meet
          exact ⟨rfl, rfl⟩
        · obtain rfl : kb = false := by rw [HKB.out]; unfold keyedB; simp [h8]
          go_wp2_with (fail)
          go_meet
          exact ⟨rfl, rfl⟩
      · obtain rfl : kb = false := by rw [HKB.out]; unfold keyedB; simp; omega
        go_wp2_with (fail)
        go_meet
        exact ⟨rfl, rfl⟩
    case rest =>
    obtain ⟨rfl, rfl⟩ := hcut
    go_upto_if 41 with (fail)
    go_cut [4] from 42 to 50 (fun s wx => s = .bool (ok1 && (!kb || g3)) ∧ Below w.heap.size w wx ∧ Blk wx x 81 #[.int .i64 kind, .int .i64 idn, .int .i64 idb, .int .i64 ids, .string bucket, .string key, .int .i64 upn, .int .i64 upb, .int .i64 ups, .int .i64 pbn, .int .i64 pbb, .int .i64 pbs, .int .i64 psize, .string etag, .int .i64 part, .slice pA parts.length pc, .int .i64 time, .int .i64 days] ∧ Blk wx z 81 #[.int .i64 kind, .int .i64 idn, .int .i64 idb, .int .i64 ids, .string zb, .string zk, .int .i64 0, .int .i64 0, .int .i64 0, .int .i64 0, .int .i64 0, .int .i64 0, .int .i64 0, .string ⟨#[]⟩, .int .i64 0, .slice none 0 0, .int .i64 0, .int .i64 0])
    case first =>
      cases kb with
      | false =>
        obtain rfl : zk = ⟨#[]⟩ := by rw [HZK.out]; rfl
        go_wp2_with (fail)
        go_meet
        exact ⟨by simp, HB3.out, HX3.out, HZ3.out⟩
      | true =>
        have fZ := HZ3.out.frozen
        have cZ := HZ3.out.cell
        obtain rfl : key = zk := by rw [HZK.out]; rfl
        go_upto_region 12 with (fail)
        refine wp_letter (fun W => Below w.heap.size w W ∧ Blk W x 81 #[.int .i64 kind, .int .i64 idn, .int .i64 idb, .int .i64 ids, .string bucket, .string key, .int .i64 upn, .int .i64 upb, .int .i64 ups, .int .i64 pbn, .int .i64 pbb, .int .i64 pbs, .int .i64 psize, .string etag, .int .i64 part, .slice pA parts.length pc, .int .i64 time, .int .i64 days] ∧ Blk W z 81 #[.int .i64 kind, .int .i64 idn, .int .i64 idb, .int .i64 ids, .string zb, .string key, .int .i64 0, .int .i64 0, .int .i64 0, .int .i64 0, .int .i64 0, .int .i64 0, .int .i64 0, .string ⟨#[]⟩, .int .i64 0, .slice none 0 0, .int .i64 0, .int .i64 0]) ⟨HB3.out.setCell (p := ⟨z, 5, none⟩) hzw _, HX3.out.far (p := ⟨z, 5, none⟩) hne _, HZ3.out.set_ 5 _⟩ ?_
        rintro W4 ⟨hb4, hX4, hZ4⟩
        have HX4 := Lib.hid hX4
        have HZ4 := Lib.hid hZ4
        have HB4 := Lib.hid hb4
        have cX := hX4.cell
        clear fZ cZ hX4 hZ4 hb4 HX3 HZ3 HB3
        cases ok1 with
        | false =>
          go_wp2_with (fail)
          go_meet
          exact ⟨rfl, HB4.out, HX4.out, HZ4.out⟩
        | true =>
          go_wp2_with (first | (go_at_call 39; refine (k39 _).mono ?_; rintro e w5 ⟨rfl, rfl⟩) | fail)
          go_meet
          exact ⟨by simp, HB4.out, HX4.out, HZ4.out⟩
    case rest =>
    obtain ⟨rfl, hb4, hX4, hZ4⟩ := hcut
    clear cX HX3 HZ3 HB3 k39
    have cX := hX4.cell
    have HX3 := Lib.hid hX4
    have HZ3 := Lib.hid hZ4
    have HB3 := Lib.hid hb4
    clear hX4 hZ4 hb4
    obtain ⟨ok2, hok2⟩ : ∃ b, b = (ok1 && (!kb || g3)) := ⟨_, rfl⟩
    rw [← hok2]
    have HOK2 := Lib.hid hok2
    clear hok2
    by_cases hk : 1 ≤ kind ∧ kind ≤ 11
    rotate_left
    · have hr0 : r = false := by rw [HR.out, decide_eq_false hk]; rfl
      have n1 : ¬ kind = 1 := by omega
      have n2 : ¬ kind = 2 := by omega
      have n3 : ¬ kind = 3 := by omega
      have n4 : ¬ kind = 4 := by omega
      have n5 : ¬ kind = 5 := by omega
      have n6 : ¬ kind = 6 := by omega
      have n7 : ¬ kind = 7 := by omega
      have n8 : ¬ kind = 8 := by omega
      have n9 : ¬ kind = 9 := by omega
      have n10 : ¬ kind = 10 := by omega
      have n11 : ¬ kind = 11 := by omega
      have HR0 := Lib.hid hr0
      clear hr0 hk
      go_wp2_with (fail)
      go_ret
      exact InPost.of HR0.out.symm HB3.out
    go_upto_block 0 with (fail)
    go_cut [4] from 53 to 180 (fun s wx => ∃ (ok : Bool) (u1 u2 u3 p1 p2 p3 p4 : Int) (pe : ByteArray) (pt : Int) (qA : Option Addr) (qn qc : Nat) (tt dd : Int), s = .bool ok ∧ Below w.heap.size w wx ∧ Blk wx x 81 #[.int .i64 kind, .int .i64 idn, .int .i64 idb, .int .i64 ids, .string bucket, .string key, .int .i64 upn, .int .i64 upb, .int .i64 ups, .int .i64 pbn, .int .i64 pbb, .int .i64 pbs, .int .i64 psize, .string etag, .int .i64 part, .slice pA parts.length pc, .int .i64 time, .int .i64 days] ∧ Blk wx z 81 #[.int .i64 kind, .int .i64 idn, .int .i64 idb, .int .i64 ids, .string zb, .string zk, .int .i64 u1, .int .i64 u2, .int .i64 u3, .int .i64 p1, .int .i64 p2, .int .i64 p3, .int .i64 p4, .string pe, .int .i64 pt, .slice qA qn qc, .int .i64 tt, .int .i64 dd] ∧
      (u1 = wf kind 2 upn ∧ u2 = wf kind 2 upb ∧ u3 = wf kind 2 ups ∧ p1 = wf kind 3 pbn ∧ p2 = wf kind 3 pbb ∧ p3 = wf kind 3 pbs ∧ p4 = wf kind 3 psize ∧ pe = wfs (fld kind 3) etag ∧ pt = wf kind 4 part ∧ (qn : Int) = wf kind 5 parts.length ∧ tt = wf kind 6 time ∧ dd = wf kind 7 days) ∧
      ok = (ok2 && (!fld kind 3 || gp && eb) && (!fld kind 4 || decide (part ≥ 1) && decide (part ≤ 16)) && (!fld kind 5 || partsB parts)))
    case first =>
      have fZ := HZ3.out.frozen
      have cZ := HZ3.out.cell
      have hks : kind = 1 ∨ kind = 2 ∨ kind = 3 ∨ kind = 4 ∨ kind = 5 ∨ kind = 6 ∨ kind = 7 ∨ kind = 8 ∨ kind = 9 ∨ kind = 10 ∨ kind = 11 := by omega
      have hfld : ∀ k i, fld k i = (kindF k).getD i false := fun _ _ => rfl
      have HF := Lib.hid hfld
      clear hfld
      rcases hks with rfl | rfl | rfl | rfl | rfl | rfl | rfl | rfl | rfl | rfl | rfl
      · go_wp2_with (fail)
        go_meet
        exact ⟨ok2, _, _, _, _, _, _, _, _, _, _, _, _, _, _, rfl, (HB3.out.setCell (p := ⟨z, 16, none⟩) hzw _), (HX3.out.far (p := ⟨z, 16, none⟩) hne _), (HZ3.out.set_ 16 _), by simp [wf, wfs, fld, kindF], by simp [fld, kindF]⟩
      · go_wp2_with (fail)
        go_meet
        exact ⟨ok2, _, _, _, _, _, _, _, _, _, _, _, _, _, _, rfl, HB3.out, HX3.out, HZ3.out, by simp [wf, wfs, fld, kindF], by simp [fld, kindF]⟩
      · go_upto_region 23 with (fail)
        go_region_held3 (fun w' => w'.cell? ⟨x, 9, none⟩ = some (.int .i64 pbn) ∧ w'.cell? ⟨x, 10, none⟩ = some (.int .i64 pbb) ∧ w'.cell? ⟨x, 11, none⟩ = some (.int .i64 pbs) ∧ w'.cell? ⟨x, 12, none⟩ = some (.int .i64 psize) ∧ w'.cell? ⟨x, 13, none⟩ = some (.string etag) ∧ w'.cell? ⟨x, 16, none⟩ = some (.int .i64 time)) (go_keep) (fail)
        go_upto_region 24 with (fail)
        have zs0 : Blk _ z 81 #[.int .i64 3, .int .i64 idn, .int .i64 idb, .int .i64 ids, .string zb, .string zk, .int .i64 0, .int .i64 0, .int .i64 0, .int .i64 pbn, .int .i64 pbb, .int .i64 pbs, .int .i64 0, .string ⟨#[]⟩, .int .i64 0, .slice none 0 0, .int .i64 0, .int .i64 0] := (((HZ3.out.set_ 9 (.int .i64 pbn)).set_ 10 (.int .i64 pbb)).set_ 11 (.int .i64 pbs))
        have zs3 : Blk _ z 81 #[.int .i64 3, .int .i64 idn, .int .i64 idb, .int .i64 ids, .string zb, .string zk, .int .i64 0, .int .i64 0, .int .i64 0, .int .i64 pbn, .int .i64 pbb, .int .i64 pbs, .int .i64 psize, .string etag, .int .i64 0, .slice none 0 0, .int .i64 time, .int .i64 0] := (((zs0.set_ 12 (.int .i64 psize)).set_ 13 (.string etag)).set_ 16 (.int .i64 time))
        refine wp_letter (fun W => Below w.heap.size w W ∧ Blk W x 81 #[.int .i64 3, .int .i64 idn, .int .i64 idb, .int .i64 ids, .string bucket, .string key, .int .i64 upn, .int .i64 upb, .int .i64 ups, .int .i64 pbn, .int .i64 pbb, .int .i64 pbs, .int .i64 psize, .string etag, .int .i64 part, .slice pA parts.length pc, .int .i64 time, .int .i64 days] ∧ Blk W z 81 #[.int .i64 3, .int .i64 idn, .int .i64 idb, .int .i64 ids, .string zb, .string zk, .int .i64 0, .int .i64 0, .int .i64 0, .int .i64 pbn, .int .i64 pbb, .int .i64 pbs, .int .i64 psize, .string etag, .int .i64 0, .slice none 0 0, .int .i64 time, .int .i64 0]) ⟨((((((HB3.out.setCell (p := ⟨z, 9, none⟩) hzw _).setCell (p := ⟨z, 10, none⟩) hzw _).setCell (p := ⟨z, 11, none⟩) hzw _).setCell (p := ⟨z, 12, none⟩) hzw _).setCell (p := ⟨z, 13, none⟩) hzw _).setCell (p := ⟨z, 16, none⟩) hzw _).drew, ((((((HX3.out.far (p := ⟨z, 9, none⟩) hne _).far (p := ⟨z, 10, none⟩) hne _).far (p := ⟨z, 11, none⟩) hne _).far (p := ⟨z, 12, none⟩) hne _).far (p := ⟨z, 13, none⟩) hne _).far (p := ⟨z, 16, none⟩) hne _).drew, zs3.drew⟩ ?_
        clear zs0 zs3
        rintro W4 ⟨hb4, hX4, hZ4⟩
        have HX4 := Lib.hid hX4
        have HZ4 := Lib.hid hZ4
        have HB4 := Lib.hid hb4
        clear cX fZ cZ hX4 hZ4 hb4 HX3 HZ3 HB3
        have cX := HX4.out.cell
        cases ok2 with
        | false =>
          go_wp2_with (fail)
          go_meet
          exact ⟨false, _, _, _, _, _, _, _, _, _, _, _, _, _, _, rfl, HB4.out, HX4.out, HZ4.out, by simp [wf, wfs, fld, kindF], by simp [fld, kindF]⟩
        | true =>
          go_wp2_with (fail)
          refine (k104 _).mono ?_
          rintro e w5 ⟨rfl, b5⟩
          have hX5 := HX4.out.below b5 HX4.out.lt
          have hZ5 := HZ4.out.below b5 HZ4.out.lt
          have hb5 := HB4.out.trans (b5.mono HB4.out.size)
          have HX5 := Lib.hid hX5
          have HZ5 := Lib.hid hZ5
          have HB5 := Lib.hid hb5
          clear cX b5 hX5 hZ5 hb5 HX4 HZ4 HB4
          have cX := HX5.out.cell
          cases gp with
          | false =>
            go_wp2_with (fail)
            go_meet
            exact ⟨false, _, _, _, _, _, _, _, _, _, _, _, _, _, _, rfl, HB5.out, HX5.out, HZ5.out, by simp [wf, wfs, fld, kindF], by simp [fld, kindF]⟩
          | true =>
            go_wp2_with (fail)
            go_meet
            exact ⟨eb, _, _, _, _, _, _, _, _, _, _, _, _, _, _, rfl, HB5.out, HX5.out, HZ5.out, by simp [wf, wfs, fld, kindF], by simp [fld, kindF]⟩
      · go_wp2_with (fail)
        go_meet
        exact ⟨ok2, _, _, _, _, _, _, _, _, _, _, _, _, _, _, rfl, HB3.out, HX3.out, HZ3.out, by simp [wf, wfs, fld, kindF], by simp [fld, kindF]⟩
      · go_wp2_with (fail)
        go_meet
        exact ⟨ok2, _, _, _, _, _, _, _, _, _, _, _, _, _, _, rfl, HB3.out, HX3.out, HZ3.out, by simp [wf, wfs, fld, kindF], by simp [fld, kindF]⟩
      · go_upto_region 26 with (fail)
        go_region_held3 (fun w' => w'.cell? ⟨x, 9, none⟩ = some (.int .i64 pbn) ∧ w'.cell? ⟨x, 10, none⟩ = some (.int .i64 pbb) ∧ w'.cell? ⟨x, 11, none⟩ = some (.int .i64 pbs) ∧ w'.cell? ⟨x, 12, none⟩ = some (.int .i64 psize) ∧ w'.cell? ⟨x, 13, none⟩ = some (.string etag) ∧ w'.cell? ⟨x, 14, none⟩ = some (.int .i64 part) ∧ w'.cell? ⟨x, 6, none⟩ = some (.int .i64 upn) ∧ w'.cell? ⟨x, 7, none⟩ = some (.int .i64 upb) ∧ w'.cell? ⟨x, 8, none⟩ = some (.int .i64 ups)) (go_keep) (fail)
        go_upto_region 27 with (fail)
        have zs0 : Blk _ z 81 #[.int .i64 6, .int .i64 idn, .int .i64 idb, .int .i64 ids, .string zb, .string zk, .int .i64 0, .int .i64 0, .int .i64 0, .int .i64 pbn, .int .i64 pbb, .int .i64 pbs, .int .i64 0, .string ⟨#[]⟩, .int .i64 0, .slice none 0 0, .int .i64 0, .int .i64 0] := (((HZ3.out.set_ 9 (.int .i64 pbn)).set_ 10 (.int .i64 pbb)).set_ 11 (.int .i64 pbs))
        have zs3 : Blk _ z 81 #[.int .i64 6, .int .i64 idn, .int .i64 idb, .int .i64 ids, .string zb, .string zk, .int .i64 0, .int .i64 0, .int .i64 0, .int .i64 pbn, .int .i64 pbb, .int .i64 pbs, .int .i64 psize, .string etag, .int .i64 part, .slice none 0 0, .int .i64 0, .int .i64 0] := (((zs0.set_ 12 (.int .i64 psize)).set_ 13 (.string etag)).set_ 14 (.int .i64 part))
        have zs6 : Blk _ z 81 #[.int .i64 6, .int .i64 idn, .int .i64 idb, .int .i64 ids, .string zb, .string zk, .int .i64 upn, .int .i64 upb, .int .i64 ups, .int .i64 pbn, .int .i64 pbb, .int .i64 pbs, .int .i64 psize, .string etag, .int .i64 part, .slice none 0 0, .int .i64 0, .int .i64 0] := (((zs3.set_ 6 (.int .i64 upn)).set_ 7 (.int .i64 upb)).set_ 8 (.int .i64 ups))
        refine wp_letter (fun W => Below w.heap.size w W ∧ Blk W x 81 #[.int .i64 6, .int .i64 idn, .int .i64 idb, .int .i64 ids, .string bucket, .string key, .int .i64 upn, .int .i64 upb, .int .i64 ups, .int .i64 pbn, .int .i64 pbb, .int .i64 pbs, .int .i64 psize, .string etag, .int .i64 part, .slice pA parts.length pc, .int .i64 time, .int .i64 days] ∧ Blk W z 81 #[.int .i64 6, .int .i64 idn, .int .i64 idb, .int .i64 ids, .string zb, .string zk, .int .i64 upn, .int .i64 upb, .int .i64 ups, .int .i64 pbn, .int .i64 pbb, .int .i64 pbs, .int .i64 psize, .string etag, .int .i64 part, .slice none 0 0, .int .i64 0, .int .i64 0]) ⟨(((((((((HB3.out.setCell (p := ⟨z, 9, none⟩) hzw _).setCell (p := ⟨z, 10, none⟩) hzw _).setCell (p := ⟨z, 11, none⟩) hzw _).setCell (p := ⟨z, 12, none⟩) hzw _).setCell (p := ⟨z, 13, none⟩) hzw _).setCell (p := ⟨z, 14, none⟩) hzw _).setCell (p := ⟨z, 6, none⟩) hzw _).setCell (p := ⟨z, 7, none⟩) hzw _).setCell (p := ⟨z, 8, none⟩) hzw _).drew, (((((((((HX3.out.far (p := ⟨z, 9, none⟩) hne _).far (p := ⟨z, 10, none⟩) hne _).far (p := ⟨z, 11, none⟩) hne _).far (p := ⟨z, 12, none⟩) hne _).far (p := ⟨z, 13, none⟩) hne _).far (p := ⟨z, 14, none⟩) hne _).far (p := ⟨z, 6, none⟩) hne _).far (p := ⟨z, 7, none⟩) hne _).far (p := ⟨z, 8, none⟩) hne _).drew, zs6.drew⟩ ?_
        clear zs0 zs3 zs6
        rintro W4 ⟨hb4, hX4, hZ4⟩
        have HX4 := Lib.hid hX4
        have HZ4 := Lib.hid hZ4
        have HB4 := Lib.hid hb4
        clear cX fZ cZ hX4 hZ4 hb4 HX3 HZ3 HB3
        have cX := HX4.out.cell
        cases ok2 with
        | false =>
          go_wp2_with (fail)
          go_meet
          exact ⟨false, _, _, _, _, _, _, _, _, _, _, _, _, _, _, rfl, HB4.out, HX4.out, HZ4.out, by simp [wf, wfs, fld, kindF], by simp [fld, kindF]⟩
        | true =>
          go_wp2_with (fail)
          refine (k104 _).mono ?_
          rintro e w5 ⟨rfl, b5⟩
          have hX5 := HX4.out.below b5 HX4.out.lt
          have hZ5 := HZ4.out.below b5 HZ4.out.lt
          have hb5 := HB4.out.trans (b5.mono HB4.out.size)
          have HX5 := Lib.hid hX5
          have HZ5 := Lib.hid hZ5
          have HB5 := Lib.hid hb5
          clear cX b5 hX5 hZ5 hb5 HX4 HZ4 HB4
          have cX := HX5.out.cell
          cases gp with
          | false =>
            go_wp2_with (fail)
            go_meet
            exact ⟨false, _, _, _, _, _, _, _, _, _, _, _, _, _, _, rfl, HB5.out, HX5.out, HZ5.out, by simp [wf, wfs, fld, kindF], by simp [fld, kindF]⟩
          | true =>
            cases eb with
            | false =>
              go_wp2_with (fail)
              go_meet
              exact ⟨false, _, _, _, _, _, _, _, _, _, _, _, _, _, _, rfl, HB5.out, HX5.out, HZ5.out, by simp [wf, wfs, fld, kindF], by simp [fld, kindF]⟩
            | true =>
              by_cases q1 : part ≥ 1
              · have HQ := Lib.hid q1
                go_wp2_with (fail)
                go_meet
                exact ⟨decide (part ≤ 16), _, _, _, _, _, _, _, _, _, _, _, _, _, _, rfl, HB5.out, HX5.out, HZ5.out, by simp [wf, wfs, fld, kindF], by rw [decide_eq_true HQ.out]; simp [fld, kindF]⟩
              · have HQ := Lib.hid q1
                go_wp2_with (fail)
                go_meet
                exact ⟨false, _, _, _, _, _, _, _, _, _, _, _, _, _, _, rfl, HB5.out, HX5.out, HZ5.out, by simp [wf, wfs, fld, kindF], by rw [decide_eq_false (show ¬ part ≥ 1 by have := HQ.out; omega)]; simp [fld, kindF]⟩
      · go_upto_region 29 with (fail)
        go_region_held3 (fun w' => w'.cell? ⟨x, 6, none⟩ = some (.int .i64 upn) ∧ w'.cell? ⟨x, 7, none⟩ = some (.int .i64 upb) ∧ w'.cell? ⟨x, 8, none⟩ = some (.int .i64 ups) ∧ w'.cell? ⟨x, 16, none⟩ = some (.int .i64 time) ∧ w'.cell? ⟨x, 15, none⟩ = some (.slice pA parts.length pc)) (go_keep) (fail)
        go_upto_region 30 with (fail)
        have zs0 : Blk _ z 81 #[.int .i64 7, .int .i64 idn, .int .i64 idb, .int .i64 ids, .string zb, .string zk, .int .i64 upn, .int .i64 upb, .int .i64 ups, .int .i64 0, .int .i64 0, .int .i64 0, .int .i64 0, .string ⟨#[]⟩, .int .i64 0, .slice none 0 0, .int .i64 0, .int .i64 0] := (((HZ3.out.set_ 6 (.int .i64 upn)).set_ 7 (.int .i64 upb)).set_ 8 (.int .i64 ups))
        have zs3 : Blk _ z 81 #[.int .i64 7, .int .i64 idn, .int .i64 idb, .int .i64 ids, .string zb, .string zk, .int .i64 upn, .int .i64 upb, .int .i64 ups, .int .i64 0, .int .i64 0, .int .i64 0, .int .i64 0, .string ⟨#[]⟩, .int .i64 0, .slice pA parts.length pc, .int .i64 time, .int .i64 0] := ((zs0.set_ 16 (.int .i64 time)).set_ 15 (.slice pA parts.length pc))
        refine wp_letter (fun W => Below w.heap.size w W ∧ Blk W x 81 #[.int .i64 7, .int .i64 idn, .int .i64 idb, .int .i64 ids, .string bucket, .string key, .int .i64 upn, .int .i64 upb, .int .i64 ups, .int .i64 pbn, .int .i64 pbb, .int .i64 pbs, .int .i64 psize, .string etag, .int .i64 part, .slice pA parts.length pc, .int .i64 time, .int .i64 days] ∧ Blk W z 81 #[.int .i64 7, .int .i64 idn, .int .i64 idb, .int .i64 ids, .string zb, .string zk, .int .i64 upn, .int .i64 upb, .int .i64 ups, .int .i64 0, .int .i64 0, .int .i64 0, .int .i64 0, .string ⟨#[]⟩, .int .i64 0, .slice pA parts.length pc, .int .i64 time, .int .i64 0]) ⟨(((((HB3.out.setCell (p := ⟨z, 6, none⟩) hzw _).setCell (p := ⟨z, 7, none⟩) hzw _).setCell (p := ⟨z, 8, none⟩) hzw _).setCell (p := ⟨z, 16, none⟩) hzw _).setCell (p := ⟨z, 15, none⟩) hzw _).drew, (((((HX3.out.far (p := ⟨z, 6, none⟩) hne _).far (p := ⟨z, 7, none⟩) hne _).far (p := ⟨z, 8, none⟩) hne _).far (p := ⟨z, 16, none⟩) hne _).far (p := ⟨z, 15, none⟩) hne _).drew, zs3.drew⟩ ?_
        clear zs0 zs3
        rintro W4 ⟨hb4, hX4, hZ4⟩
        have HX4 := Lib.hid hX4
        have HZ4 := Lib.hid hZ4
        have HB4 := Lib.hid hb4
        clear cX fZ cZ hX4 hZ4 hb4 HX3 HZ3 HB3
        have cX := HX4.out.cell
        have hp4 := hp.fr (Fr.of_below HB4.out (fun _ => False)) hhi (fun _ _ _ h => h)
        obtain ⟨A, c, he, hc1, hc2, _, hr⟩ := hp4
        injection he with e1 e2 e3
        subst e1
        subst e3
        have hn63 : parts.length ≤ 9223372036854775807 := by simp only [maxLen] at hc2; omega
        have HRD := Lib.hid hr
        clear hr hc1 hc2 hp
        obtain ⟨ok3, hok3⟩ : ∃ b, b = (ok2 && decide (0 < parts.length)) := ⟨_, rfl⟩
        have HOK3 := Lib.hid hok3
        clear hok3
        go_cut [4] from 132 to 138 (fun s wx => s = .bool ok3 ∧ wx = W4)
        case first =>
          cases ok2 with
          | false =>
            obtain rfl : ok3 = false := by rw [HOK3.out]; rfl
            go_wp2_with (fail)
            go_meet
            exact ⟨rfl, rfl⟩
          | true =>
            go_wp2_with (fail)
            go_meet
            exact ⟨by rw [HOK3.out]; simp, rfl⟩
        case rest =>
          obtain ⟨rfl, rfl⟩ := hcut
          have h0 : rUp ok3 parts 0 = ok3 := by simp [rUp, risesFrom]
          have H0 := Lib.hid h0
          clear h0
          go_wp2_with (fail)
          go_loop [4, 142] (fun v i => ∃ k : Nat, k ≤ parts.length ∧ i = .int .i64 k ∧ v = .bool (rUp ok3 parts k)) (fun _ i => parts.length - (intOf i).toNat)
          case atStart => exact ⟨0, Nat.zero_le _, rfl, by rw [H0.out]⟩
          case round =>
            obtain ⟨k, hk', rfl, rfl⟩ := hrel
            by_cases hlt : k < parts.length
            · obtain ⟨n, hx⟩ : ∃ n, parts[k]? = some n := ⟨_, List.getElem?_eq_getElem hlt⟩
              have hstep : rUp ok3 parts (k + 1) = (rUp ok3 parts k && decide ((if k = 0 then 0 else parts.getD (k - 1) 0) < n ∧ n ≤ 16)) := by
                unfold rUp
                rw [rises_take parts 0 k n hx, Bool.and_assoc]
              have hlow : rUp ok3 parts k = true → 0 < k → 1 ≤ parts.getD (k - 1) 0 := fun e h1 => by
                unfold rUp at e
                rw [Bool.and_eq_true] at e
                exact rises_low parts 0 k (by omega) e.2 h1 hk'
              obtain ⟨ad, rfl, _, _, hcell⟩ := HRD.out.2 (by omega)
              obtain ⟨b, o, sp⟩ := ad
              have hck : wc.cell? ((⟨b, o, sp⟩ : Addr).add k) = some (.int .i64 n) := hcell k _ (by rw [ints_getElem?, hx]; rfl)
              have hc0 : ∃ u, wc.cell? ((⟨b, o, sp⟩ : Addr).add 0) = some u := by
                have : 0 < parts.length := by omega
                exact ⟨_, hcell 0 _ (by rw [ints_getElem?, List.getElem?_eq_getElem this]; rfl)⟩
              obtain ⟨u0, hu0⟩ := hc0
              have hsp : sp = none := by simpa [Addr.add] using World.cell?_spot hu0
              subst hsp
              rw [Addr.add_mid] at hck
              have hprev : 0 < k → wc.cell? ⟨b, o + (k - 1), none⟩ = some (.int .i64 (parts.getD (k - 1) 0)) := fun hk0 => by
                have hlt' : k - 1 < parts.length := by omega
                have := hcell (k - 1) (.int .i64 (parts.getD (k - 1) 0)) (by rw [ints_getElem?, List.getElem?_eq_getElem hlt']; simp [List.getD, List.getElem?_eq_getElem hlt'])
                rwa [Addr.add_mid] at this
              obtain ⟨p, hp'⟩ : ∃ p, p = parts.getD (k - 1) 0 := ⟨_, rfl⟩
              rw [← hp'] at hstep hlow hprev
              obtain ⟨u, hu⟩ : ∃ u, u = rUp ok3 parts k := ⟨_, rfl⟩
              rw [← hu] at hstep hlow
              rw [← hu]
              have HS := Lib.hid hstep
              have HP := Lib.hid hprev
              clear hstep hprev hu hp' hx hcell hu0 H0 HRD
              have cX := HX4.out.cell
              cases u with
              | false =>
                clear hlow
                go_wp2_with (fail)
                go_round
                case rel => exact ⟨k + 1, by omega, by go_num, by rw [HS.out]; simp⟩
                case measure => simp [intOf]; omega
              | true =>
                have hlow := hlow rfl
                by_cases x1 : n ≥ 1
                · by_cases x16 : n ≤ 16
                  · by_cases k0 : (k : Int) = 0
                    · have k00 : k = 0 := by omega
                      subst k00
                      rw [Nat.add_zero] at hck
                      have HL := Lib.hid hlow
                      clear hlow k0
                      go_wp2_with (fail)
                      go_round
                      case rel => exact ⟨0 + 1, by omega, by go_num, by rw [HS.out, if_pos rfl, decide_eq_true (by omega)]; rfl⟩
                      case measure => simp [intOf]; omega
                    · have cp := HP.out (by omega)
                      have hk1 : ((k : Int) - 1).toNat = k - 1 := by omega
                      have HL := Lib.hid hlow
                      clear hlow
                      by_cases xp : p < n
                      · go_wp2_with (fail)
                        go_round
                        case rel => exact ⟨k + 1, by omega, by go_num, by rw [HS.out, if_neg (by omega)]; simp; omega⟩
                        case measure => simp [intOf]; omega
                      · go_wp2_with (fail)
                        go_round
                        case rel => exact ⟨k + 1, by omega, by go_num, by rw [HS.out, if_neg (by omega), decide_eq_false (show ¬ (p < n ∧ n ≤ 16) by omega)]; simp; omega⟩
                        case measure => simp [intOf]; omega
                  · have HL := Lib.hid hlow
                    clear hlow
                    go_wp2_with (fail)
                    go_round
                    case rel => exact ⟨k + 1, by omega, by go_num, by rw [HS.out]; simp; omega⟩
                    case measure => simp [intOf]; omega
                · have hno : ¬ ((if k = 0 then 0 else p) < n ∧ n ≤ 16) := by
                    by_cases k0 : k = 0
                    · rw [if_pos k0]; omega
                    · rw [if_neg k0]
                      have := hlow (by omega)
                      omega
                  have HL := Lib.hid hno
                  clear hlow hno
                  go_wp2_with (fail)
                  go_round
                  case rel => exact ⟨k + 1, by omega, by go_num, by rw [HS.out, decide_eq_false HL.out]; rfl⟩
                  case measure => simp [intOf]; omega
            · have hkn : k = parts.length := by omega
              obtain ⟨u, hu⟩ : ∃ u, u = rUp ok3 parts k := ⟨_, rfl⟩
              have hU : u = (ok2 && partsB parts) := by
                rw [hu, hkn]
                unfold rUp partsB
                rw [List.take_length, HOK3.out, Bool.and_assoc, Bool.and_comm (decide _)]
              rw [← hu]
              have HU := Lib.hid hU
              clear hkn hu hU H0
              go_wp2_with (fail)
              go_meet
              exact ⟨u, _, _, _, _, _, _, _, _, _, _, _, _, _, _, rfl, HB4.out, HX4.out, HZ4.out, by simp [wf, wfs, fld, kindF], by rw [HU.out]; simp [fld, kindF]⟩
      · go_wp2_with (fail)
        go_meet
        exact ⟨ok2, _, _, _, _, _, _, _, _, _, _, _, _, _, _, rfl, (((HB3.out.setCell (p := ⟨z, 6, none⟩) hzw _).setCell (p := ⟨z, 7, none⟩) hzw _).setCell (p := ⟨z, 8, none⟩) hzw _), (((HX3.out.far (p := ⟨z, 6, none⟩) hne _).far (p := ⟨z, 7, none⟩) hne _).far (p := ⟨z, 8, none⟩) hne _), (((HZ3.out.set_ 6 _).set_ 7 _).set_ 8 _), by simp [wf, wfs, fld, kindF], by simp [fld, kindF]⟩
      · go_wp2_with (fail)
        go_meet
        exact ⟨ok2, _, _, _, _, _, _, _, _, _, _, _, _, _, _, rfl, (HB3.out.setCell (p := ⟨z, 17, none⟩) hzw _), (HX3.out.far (p := ⟨z, 17, none⟩) hne _), (HZ3.out.set_ 17 _), by simp [wf, wfs, fld, kindF], by simp [fld, kindF]⟩
      · go_wp2_with (fail)
        go_meet
        exact ⟨ok2, _, _, _, _, _, _, _, _, _, _, _, _, _, _, rfl, (HB3.out.setCell (p := ⟨z, 16, none⟩) hzw _), (HX3.out.far (p := ⟨z, 16, none⟩) hne _), (HZ3.out.set_ 16 _), by simp [wf, wfs, fld, kindF], by simp [fld, kindF]⟩
      · go_wp2_with (fail)
        go_meet
        exact ⟨ok2, _, _, _, _, _, _, _, _, _, _, _, _, _, _, rfl, HB3.out, HX3.out, HZ3.out, by simp [wf, wfs, fld, kindF], by simp [fld, kindF]⟩
    case rest =>
      obtain ⟨ok, u1, u2, u3, p1, p2, p3, p4, pe, pt, qA, qn, qc, tt, dd, rfl, hb5, hX5, hZ5, hEQ, hOK⟩ := hcut
      obtain ⟨a1, a2, a3, a4, a5, a6, a7, a8, a9, a10, a11, a12⟩ := hEQ
      have hr := HR.out
      rw [decide_eq_true hk, ← a1, ← a2, ← a3, ← a4, ← a5, ← a6, ← a7, ← a8, ← a9, ← a10, ← a11, ← a12] at hr
      have hr2 : r = (ok && (tick time && (tick days && (gid upn upb ups && ((zb.toList == bucket.toList) && ((zk.toList == key.toList) && (eq3 u1 u2 u3 upn upb ups && (eq5 p1 p2 p3 p4 pe pbn pbb pbs psize etag && ((pt == part) && ((tt == time) && ((dd == days) && ((qn : Int) == parts.length)))))))))))) := by
        rw [hr, hOK, HOK2.out, HOK1.out, HNB.out, HKB.out]
        unfold okAll
        simp only [Bool.true_and, Bool.and_assoc]
      clear hr a1 a2 a3 a4 a5 a6 a7 a8 a9 a10 a11 a12 hOK HR HOK2 HOK1 HNB HKB HZB HZK k104 q74
      obtain ⟨t1, ht1⟩ : ∃ x, x = tick time := ⟨_, rfl⟩
      have k105t : ∀ w, Calls Tryd.prog 105 #[.int .i64 time] w fun e w' => e = .returned (.bool (tick time)) ∧ Below w.heap.size w w' := fun w => (ticks_any time w).mono fun e w' ⟨h1, h2⟩ => ⟨h1, by rw [h2]; exact Below.refl _ _⟩
      rw [← ht1] at k105t hr2
      obtain ⟨t2, ht2⟩ : ∃ x, x = tick days := ⟨_, rfl⟩
      have k105d : ∀ w, Calls Tryd.prog 105 #[.int .i64 days] w fun e w' => e = .returned (.bool (tick days)) ∧ Below w.heap.size w w' := fun w => (ticks_any days w).mono fun e w' ⟨h1, h2⟩ => ⟨h1, by rw [h2]; exact Below.refl _ _⟩
      rw [← ht2] at k105d hr2
      obtain ⟨gu, hgu⟩ : ∃ x, x = gid upn upb ups := ⟨_, rfl⟩
      have k41u := fun w => rgoodId_any upn upb ups w
      unfold IdPost at k41u
      rw [← hgu] at k41u hr2
      obtain ⟨eu, heu⟩ : ∃ x, x = eq3 u1 u2 u3 upn upb ups := ⟨_, rfl⟩
      have q74 := fun w => eq74 u1 u2 u3 upn upb ups w
      rw [← heu] at q74 hr2
      obtain ⟨ep, hep⟩ : ∃ x, x = eq5 p1 p2 p3 p4 pe pbn pbb pbs psize etag := ⟨_, rfl⟩
      have q79 := fun w => eq79 p1 p2 p3 p4 pe pbn pbb pbs psize etag w
      rw [← hep] at q79 hr2
      have HR := Lib.hid hr2
      have HX5 := Lib.hid hX5
      have HZ5 := Lib.hid hZ5
      have HB5 := Lib.hid hb5
      clear cX
      clear hr2 ht1 ht2 hgu heu hep hX5 hZ5 hb5 HX3 HZ3 HB3
      have BD : ∀ d os, Below w.heap.size w (Go.Sort.grow (redrawn wc d) os) := fun d os => HB5.out.trans ((below_regrown wc d os).mono HB5.out.size)
      have HBD := Lib.hid BD
      have cX : ∀ d os i, (Go.Sort.grow (redrawn wc d) os).cell? ⟨x, i, none⟩ = (#[.int .i64 kind, .int .i64 idn, .int .i64 idb, .int .i64 ids, .string bucket, .string key, .int .i64 upn, .int .i64 upb, .int .i64 ups, .int .i64 pbn, .int .i64 pbb, .int .i64 pbs, .int .i64 psize, .string etag, .int .i64 part, .slice pA parts.length pc, .int .i64 time, .int .i64 days] : Array Value)[i]? := fun d os => (HX5.out.below (below_regrown wc d os) HX5.out.lt).cell
      have cZ : ∀ d os i, (Go.Sort.grow (redrawn wc d) os).cell? ⟨z, i, none⟩ = (#[.int .i64 kind, .int .i64 idn, .int .i64 idb, .int .i64 ids, .string zb, .string zk, .int .i64 u1, .int .i64 u2, .int .i64 u3, .int .i64 p1, .int .i64 p2, .int .i64 p3, .int .i64 p4, .string pe, .int .i64 pt, .slice qA qn qc, .int .i64 tt, .int .i64 dd] : Array Value)[i]? := fun d os => (HZ5.out.below (below_regrown wc d os) HZ5.out.lt).cell
      clear BD HX5 HZ5 HB5
      go_upto_region 40 with (fail)
      simp only [List.cons_append, List.nil_append, List.append_eq]
      refine wp_region_lit_below ?_
      repeat (go_big_quiet_step (first | (with_reducible exact Calls.regrown_of (k105t _)) | (with_reducible exact Calls.regrown_of (k105d _)) | (with_reducible exact Calls.regrown_of (k41u _))))
      cases ok with
      | false =>
        repeat (go_big_quiet_step (first | (with_reducible exact Calls.regrown_of (k105t _)) | (with_reducible exact Calls.regrown_of (k105d _)) | (with_reducible exact Calls.regrown_of (k41u _))))
        refine wpQuiet_nil ?_
        intro _ hw'
        obtain ⟨⟨dq, osq⟩, hw''⟩ := hw'
        subst hw''
        go_wp2_with (fail)
        go_ret
        exact InPost.of (by rw [HR.out]; simp) (HBD.out dq osq)
      | true =>
        repeat (go_big_quiet_step (first | (with_reducible exact Calls.regrown_of (k105t _)) | (with_reducible exact Calls.regrown_of (k105d _)) | (with_reducible exact Calls.regrown_of (k41u _))))
        cases t1 with
        | false =>
          repeat (go_big_quiet_step (first | (with_reducible exact Calls.regrown_of (k105t _)) | (with_reducible exact Calls.regrown_of (k105d _)) | (with_reducible exact Calls.regrown_of (k41u _))))
          refine wpQuiet_nil ?_
          intro _ hw'
          obtain ⟨⟨dq, osq⟩, hw''⟩ := hw'
          subst hw''
          go_wp2_with (fail)
          go_ret
          exact InPost.of (by rw [HR.out]; simp) (HBD.out dq osq)
        | true =>
          repeat (go_big_quiet_step (first | (with_reducible exact Calls.regrown_of (k105t _)) | (with_reducible exact Calls.regrown_of (k105d _)) | (with_reducible exact Calls.regrown_of (k41u _))))
          cases t2 with
          | false =>
            repeat (go_big_quiet_step (first | (with_reducible exact Calls.regrown_of (k105t _)) | (with_reducible exact Calls.regrown_of (k105d _)) | (with_reducible exact Calls.regrown_of (k41u _))))
            refine wpQuiet_nil ?_
            intro _ hw'
            obtain ⟨⟨dq, osq⟩, hw''⟩ := hw'
            subst hw''
            go_wp2_with (fail)
            go_ret
            exact InPost.of (by rw [HR.out]; simp) (HBD.out dq osq)
          | true =>
            repeat (go_big_quiet_step (first | (with_reducible exact Calls.regrown_of (k105t _)) | (with_reducible exact Calls.regrown_of (k105d _)) | (with_reducible exact Calls.regrown_of (k41u _))))
            cases gu with
            | false =>
              repeat (go_big_quiet_step (first | (with_reducible exact Calls.regrown_of (k105t _)) | (with_reducible exact Calls.regrown_of (k105d _)) | (with_reducible exact Calls.regrown_of (k41u _))))
              refine wpQuiet_nil ?_
              intro _ hw'
              obtain ⟨⟨dq, osq⟩, hw''⟩ := hw'
              subst hw''
              go_wp2_with (fail)
              go_ret
              exact InPost.of (by rw [HR.out]; simp) (HBD.out dq osq)
            | true =>
              repeat (go_big_quiet_step (first | (with_reducible exact Calls.regrown_of (k105t _)) | (with_reducible exact Calls.regrown_of (k105d _)) | (with_reducible exact Calls.regrown_of (k41u _))))
              cases s1 : (zb.toList == bucket.toList) with
              | false =>
                repeat (go_big_quiet_step (first | (with_reducible exact Calls.regrown_of (k105t _)) | (with_reducible exact Calls.regrown_of (k105d _)) | (with_reducible exact Calls.regrown_of (k41u _))))
                refine wpQuiet_nil ?_
                intro _ hw'
                obtain ⟨⟨dq, osq⟩, hw''⟩ := hw'
                subst hw''
                go_wp2_with (fail)
                go_ret
                exact InPost.of (by rw [HR.out, s1]; simp) (HBD.out dq osq)
              | true =>
                repeat (go_big_quiet_step (first | (with_reducible exact Calls.regrown_of (k105t _)) | (with_reducible exact Calls.regrown_of (k105d _)) | (with_reducible exact Calls.regrown_of (k41u _))))
                cases s2 : (zk.toList == key.toList) with
                | false =>
                  repeat (go_big_quiet_step (first | (with_reducible exact Calls.regrown_of (k105t _)) | (with_reducible exact Calls.regrown_of (k105d _)) | (with_reducible exact Calls.regrown_of (k41u _))))
                  refine wpQuiet_nil ?_
                  intro _ hw'
                  obtain ⟨⟨dq, osq⟩, hw''⟩ := hw'
                  subst hw''
                  go_wp2_with (fail)
                  go_ret
                  exact InPost.of (by rw [HR.out, s1, s2]; simp) (HBD.out dq osq)
                | true =>
                  repeat (go_big_quiet_step (first | (with_reducible exact Calls.regrown_of (k105t _)) | (with_reducible exact Calls.regrown_of (k105d _)) | (with_reducible exact Calls.regrown_of (k41u _))))
                  cases eu with
                  | false =>
                    repeat (go_big_quiet_step (first | (with_reducible exact Calls.regrown_of (k105t _)) | (with_reducible exact Calls.regrown_of (k105d _)) | (with_reducible exact Calls.regrown_of (k41u _))))
                    refine wpQuiet_nil ?_
                    intro _ hw'
                    obtain ⟨⟨dq, osq⟩, hw''⟩ := hw'
                    subst hw''
                    go_wp2_with (fail)
                    go_ret
                    exact InPost.of (by rw [HR.out, s1, s2]; simp) (HBD.out dq osq)
                  | true =>
                    repeat (go_big_quiet_step (first | (with_reducible exact Calls.regrown_of (k105t _)) | (with_reducible exact Calls.regrown_of (k105d _)) | (with_reducible exact Calls.regrown_of (k41u _))))
                    cases ep with
                    | false =>
                      repeat (go_big_quiet_step (first | (with_reducible exact Calls.regrown_of (k105t _)) | (with_reducible exact Calls.regrown_of (k105d _)) | (with_reducible exact Calls.regrown_of (k41u _))))
                      refine wpQuiet_nil ?_
                      intro _ hw'
                      obtain ⟨⟨dq, osq⟩, hw''⟩ := hw'
                      subst hw''
                      go_wp2_with (fail)
                      go_ret
                      exact InPost.of (by rw [HR.out, s1, s2]; simp) (HBD.out dq osq)
                    | true =>
                      repeat (go_big_quiet_step (first | (with_reducible exact Calls.regrown_of (k105t _)) | (with_reducible exact Calls.regrown_of (k105d _)) | (with_reducible exact Calls.regrown_of (k41u _))))
                      cases m1 : (pt == part) with
                      | false =>
                        repeat (go_big_quiet_step (first | (with_reducible exact Calls.regrown_of (k105t _)) | (with_reducible exact Calls.regrown_of (k105d _)) | (with_reducible exact Calls.regrown_of (k41u _))))
                        refine wpQuiet_nil ?_
                        intro _ hw'
                        obtain ⟨⟨dq, osq⟩, hw''⟩ := hw'
                        subst hw''
                        go_wp2_with (fail)
                        go_ret
                        exact InPost.of (by rw [HR.out, s1, s2, m1]; simp) (HBD.out dq osq)
                      | true =>
                        repeat (go_big_quiet_step (first | (with_reducible exact Calls.regrown_of (k105t _)) | (with_reducible exact Calls.regrown_of (k105d _)) | (with_reducible exact Calls.regrown_of (k41u _))))
                        cases m2 : (tt == time) with
                        | false =>
                          repeat (go_big_quiet_step (first | (with_reducible exact Calls.regrown_of (k105t _)) | (with_reducible exact Calls.regrown_of (k105d _)) | (with_reducible exact Calls.regrown_of (k41u _))))
                          refine wpQuiet_nil ?_
                          intro _ hw'
                          obtain ⟨⟨dq, osq⟩, hw''⟩ := hw'
                          subst hw''
                          go_wp2_with (fail)
                          go_ret
                          exact InPost.of (by rw [HR.out, s1, s2, m1, m2]; simp) (HBD.out dq osq)
                        | true =>
                          repeat (go_big_quiet_step (first | (with_reducible exact Calls.regrown_of (k105t _)) | (with_reducible exact Calls.regrown_of (k105d _)) | (with_reducible exact Calls.regrown_of (k41u _))))
                          cases m3 : (dd == days) with
                          | false =>
                            repeat (go_big_quiet_step (first | (with_reducible exact Calls.regrown_of (k105t _)) | (with_reducible exact Calls.regrown_of (k105d _)) | (with_reducible exact Calls.regrown_of (k41u _))))
                            refine wpQuiet_nil ?_
                            intro _ hw'
                            obtain ⟨⟨dq, osq⟩, hw''⟩ := hw'
                            subst hw''
                            go_wp2_with (fail)
                            go_ret
                            exact InPost.of (by rw [HR.out, s1, s2, m1, m2, m3]; simp) (HBD.out dq osq)
                          | true =>
                            repeat (go_big_quiet_step (first | (with_reducible exact Calls.regrown_of (k105t _)) | (with_reducible exact Calls.regrown_of (k105d _)) | (with_reducible exact Calls.regrown_of (k41u _))))
                            refine wpQuiet_nil ?_
                            intro _ hw'
                            obtain ⟨⟨dq, osq⟩, hw''⟩ := hw'
                            subst hw''
                            go_wp2_with (fail)
                            go_ret
                            exact InPost.of (by rw [HR.out, s1, s2, m1, m2, m3]; simp) (HBD.out dq osq)

theorem inForm_any (c : Cmd) (hz : c.Sized) (w : World) (lo hi : Nat) (pv : Value) (hp : IntsAt w lo hi pv c.parts) (hhi : hi ≤ w.heap.size) : Calls Tryd.prog 46 #[.agg (c.cells pv).toArray] w (InPost (inB c) w) := by
  obtain ⟨kind, idn, idb, ids, bucket, key, upn, upb, ups, pbn, pbb, pbs, psize, etag, part, parts, time, days⟩ := c
  obtain ⟨A, cp, rfl, h⟩ := id hp
  exact inForm_core kind idn idb ids bucket key upn upb ups pbn pbb pbs psize etag part parts time days A cp hz.1 hz.2.1 hz.2.2 w lo hi hp hhi _ rfl

end Go.Proofs.YtnlncfjibbdimaaDoor

