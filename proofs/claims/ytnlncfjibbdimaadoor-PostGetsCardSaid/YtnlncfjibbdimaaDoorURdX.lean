/-
  What was read as a number was written by enc; the command reader where what is asked for is not there, by a panic; a command off a row, in plain Lean; num, text and id both ways.
  The walks of the document's Num, Bytes and nums: a number's bytes, a text's, a list's.
  The document's Read, Reader, take and id: the walks; what it reads against what the program reads, in plain Lean.
-/
import Derived.Test.YtnlncfjibbdimaaDoorURdrA
import Derived.Test.YtnlncfjibbdimaaDoorUBase
import Derived.WalkSmall
import Derived.Test.YtnlncfjibbdimaaDoorUSameL
import Derived.Deep.RegionHeld2
import Derived.Deep.RegionHeld3
namespace Go.Proofs.YtnlncfjibbdimaaDoor
open Go.RowKit
set_option linter.unusedSimpArgs false
set_option linter.unusedVariables false
theorem decG_inv : ∀ (j i acc : Nat) (l : List Nat) (n : Nat) (r : List Nat), 9 - i = j → (∀ x ∈ l, x < 256) → decG i acc l = some (n, r) → ∃ m, n = acc + m * 2 ^ (7 * i) ∧ l = enc m ++ r ∧ (m ≠ 0 ∨ i = 0) := by
  intro j
  induction j with
  | zero =>
    intro i acc l n r hj _ h
    rw [decG_end (by omega)] at h
    cases h
  | succ j ih =>
    intro i acc l n r hj hl h
    have hi : ¬ 9 ≤ i := by omega
    cases l with
    | nil => rw [decG_nil] at h; cases h
    | cons c t =>
      by_cases hc : c < 128
      · rw [decG_low hi hc] at h
        split at h
        · rename_i h0
          injection h with h
          injection h with h1 h2
          subst h1 h2
          exact ⟨c, by rw [Nat.mod_eq_of_lt hc], by rw [enc_small hc]; rfl, h0⟩
        · cases h
      · rw [decG_high hi hc] at h
        obtain ⟨m, h1, h2, h3⟩ := ih (i + 1) _ t n r (by omega) (fun x hx => hl x (List.mem_cons_of_mem _ hx)) h
        have hm : m ≠ 0 := by omega
        have hc256 := hl c (by simp)
        have e2 : 2 ^ (7 * (i + 1)) = 128 * 2 ^ (7 * i) := by rw [show 7 * (i + 1) = 7 + 7 * i by omega, Nat.pow_add]
        refine ⟨c % 128 + 128 * m, ?_, ?_, .inl (by omega)⟩
        · rw [h1, e2, Nat.add_mul, Nat.add_assoc]
          congr 2
          rw [← Nat.mul_assoc, Nat.mul_comm m 128]
        · rw [enc_big (by omega), show (c % 128 + 128 * m) % 128 + 128 = c by omega, show (c % 128 + 128 * m) / 128 = m by omega, h2]
          rfl
theorem dec_inv {l r : List Nat} {n : Nat} (hl : ∀ x ∈ l, x < 256) (h : dec l = some (n, r)) : l = enc n ++ r := by
  obtain ⟨m, h1, h2, _⟩ := decG_inv _ 0 0 l n r rfl hl h
  rw [h2, h1]
  simp
end Go.Proofs.YtnlncfjibbdimaaDoor
namespace Go.Proofs.YtnlncfjibbdimaaDoor
open Go.RowKit
set_option linter.unusedSimpArgs false
set_option linter.unusedVariables false
/-- Nothing was read: the error of the bytes. -/
def Refused (v : Value) (a2 : Addr) (w : World) (e : Ending) (w' : World) : Prop := e = .returned (.tuple #[v, errv a2]) ∧ Below w.heap.size w w'
set_option maxRecDepth 100000 in
set_option maxHeartbeats 1600000 in
theorem rdnum_bad (w : World) (lo g p most : Nat) (bs : List Nat) (h : RdrAt w lo g bs p) (hbad : ∀ n r, dec (bs.drop p) = some (n, r) → most < n) (hm : most ≤ 140737488355328) (a2 : Addr) (h2 : w.cell? ⟨2, 0, none⟩ = some (errv a2)) :
    Calls Tryd.prog 136 #[.pointer (some ⟨g, 0, none⟩), .int .i64 most] w (Refused (.int .i64 0) a2 w) := by
  have k164 := number_any w lo g p bs h
  obtain ⟨A, c, hB, ho⟩ := h.2.2.2.2
  have cB := hB.cell
  have HK := Lib.hid k164
  have HB := Lib.hid hbad
  clear h ho k164 hB hbad
  go_enter Tryd.func136, Tryd.ntmps136
  go_upto_region 2 with (fail)
  refine HK.out.mono ?_
  rintro e w1 ⟨hw, n, q, ok, rfl, h3, h4⟩
  subst w1
  have hnz : ok = true → ¬ (n : Int) ≤ (most : Int) := fun e hle => by
    have := HB.out n _ (h3 e).1
    omega
  have HNZ := Lib.hid hnz
  clear h3 h4 hnz
  cases ok with
  | false =>
    go_upto_region 3 with (fail)
    go_region_held3 (fun w' => w'.cell? ⟨2, 0, none⟩ = some (errv a2)) (go_keep) (fail)
    go_wp2_with (fail)
    go_ret2
    exact ⟨rfl, (Below.refl _ _).drew⟩
  | true =>
    have hgt : (n : Int) > (most : Int) := by have := HNZ.out rfl; omega
    go_upto_region 3 with (fail)
    go_region_held3 (fun w' => w'.cell? ⟨2, 0, none⟩ = some (errv a2)) (go_keep) (fail)
    go_wp2_with (fail)
    go_ret2
    exact ⟨rfl, (Below.refl _ _).drew⟩
set_option maxRecDepth 100000 in
set_option maxHeartbeats 1600000 in
theorem rdbytes_bad (w : World) (lo g p most : Nat) (bs : List Nat) (h : RdrAt w lo g bs p) (hbad : ∀ n r, dec (bs.drop p) = some (n, r) → most < n ∨ r.length < n) (hm : most ≤ 140737488355328) (a2 : Addr) (h2 : w.cell? ⟨2, 0, none⟩ = some (errv a2)) :
    Calls Tryd.prog 137 #[.pointer (some ⟨g, 0, none⟩), .int .i64 most] w (Refused (.slice none 0 0) a2 w) := by
  have k164 := number_any w lo g p bs h
  obtain ⟨A, c, hB, ho⟩ := h.2.2.2.2
  have hbl := h.2.1
  have cB := hB.cell
  have HK := Lib.hid k164
  have HB := Lib.hid hbad
  clear h ho k164 hB hbad
  go_enter Tryd.func137, Tryd.ntmps137
  go_upto_region 2 with (fail)
  refine HK.out.mono ?_
  rintro e w1 ⟨hw, n, q, ok, rfl, h3, h4⟩
  subst w1
  cases ok with
  | false =>
    clear h3 h4
    go_upto_region 3 with (fail)
    go_region_held3 (fun w' => w'.cell? ⟨2, 0, none⟩ = some (errv a2)) (go_keep) (fail)
    go_wp2_with (fail)
    go_ret2
    exact ⟨rfl, (Below.refl _ _).drew⟩
  | true =>
    obtain ⟨h5, h6, _⟩ := h3 rfl
    have h7 := HB.out n _ h5
    rw [List.length_drop] at h7
    clear h3 h4 h5
    by_cases hgt : (n : Int) > (most : Int)
    · clear h7
      go_upto_region 3 with (fail)
      go_region_held3 (fun w' => w'.cell? ⟨2, 0, none⟩ = some (errv a2)) (go_keep) (fail)
      go_wp2_with (fail)
      go_ret2
      exact ⟨rfl, (Below.refl _ _).drew⟩
    · have hq : (n : Int) > (bs.length : Int) - (q : Int) := by omega
      have hq1 : (q : Int) ≤ bs.length := by omega
      clear h7
      go_upto_region 3 with (fail)
      go_region_held3 (fun w' => w'.cell? ⟨2, 0, none⟩ = some (errv a2)) (go_keep) (fail)
      go_wp2_with (fail)
      go_ret2
      exact ⟨rfl, (Below.refl _ _).drew⟩
end Go.Proofs.YtnlncfjibbdimaaDoor
namespace Go.Proofs.YtnlncfjibbdimaaDoor
open Go.RowKit
set_option linter.unusedSimpArgs false
set_option linter.unusedVariables false
set_option maxRecDepth 100000 in
set_option maxHeartbeats 1600000 in
theorem rdtext_bad (w : World) (lo g p most : Nat) (bs : List Nat) (h : RdrAt w lo g bs p) (hbad : ∀ n r, dec (bs.drop p) = some (n, r) → most < n ∨ r.length < n) (hm : most ≤ 140737488355328) (a2 : Addr) (h2 : w.cell? ⟨2, 0, none⟩ = some (errv a2)) :
    Calls Tryd.prog 166 #[.pointer (some ⟨g, 0, none⟩), .int .i64 most] w (Refused (.string ⟨#[]⟩) a2 w) := by
  have k137 := rdbytes_bad w lo g p most bs h hbad hm a2 h2
  have HK := Lib.hid k137
  have hcv : ∀ W, (convert 84 9 (.slice none 0 0)).run Tryd.prog W = .ok (.string ⟨#[]⟩) W := fun W => conv_text (W := W) (lo := 0) (hi := 0) ⟨#[]⟩ Rd.none_ (fun _ => rfl)
  clear k137 hbad h
  go_enter Tryd.func166, Tryd.ntmps166
  go_upto_region 2 with (fail)
  refine HK.out.mono ?_
  rintro e w1 ⟨rfl, b1⟩
  go_wp2_with (fail)
  go_ret2
  exact ⟨rfl, b1⟩
/-- The panic with which a reading gives up. -/
def brokenP (a2 : Addr) : Ending := .panicked [{ v := .iface 182 (.agg #[errv a2]), recovered := false }]
def GaveUp (a2 : Addr) (w : World) (e : Ending) (w' : World) : Prop := e = brokenP a2 ∧ Below w.heap.size w w'
set_option maxRecDepth 100000 in
set_option maxHeartbeats 1600000 in
theorem rgnum_bad (w : World) (lo g p : Nat) (bs : List Nat) (h : RdrAt w lo g bs p) (hbad : ∀ n r, dec (bs.drop p) = some (n, r) → 1099511627776 < n) (a2 : Addr) (h2 : w.cell? ⟨2, 0, none⟩ = some (errv a2)) :
    Calls Tryd.prog 148 #[.agg #[.pointer (some ⟨g, 0, none⟩)]] w (GaveUp a2 w) := by
  have h00 := World.block_lt_of_cell? w _ h2
  have hb : Below w.heap.size w (w.alloc (.cells #[.pointer (some ⟨g, 0, none⟩)] 187)) := (Below.refl w.heap.size w).alloc (Nat.le_refl _) _
  have k136 := rdnum_bad (w.alloc (.cells #[.pointer (some ⟨g, 0, none⟩)] 187)) lo g p 1099511627776 bs (h.below hb (Nat.le_refl _)) hbad (by omega) a2 ((hb.cell h00).trans h2)
  have HK := Lib.hid k136
  have HB := Lib.hid hb
  clear k136 hbad h h2 h00 hb
  go_enter Tryd.func148, Tryd.ntmps148
  go_upto_region 2 with (fail)
  refine HK.out.mono ?_
  rintro e w1 ⟨rfl, b1⟩
  go_wp2_with (fail)
  exact ⟨rfl, rfl, HB.out.trans (b1.mono HB.out.size)⟩
set_option maxRecDepth 100000 in
set_option maxHeartbeats 1600000 in
theorem rgtext_bad (w : World) (lo g p : Nat) (bs : List Nat) (h : RdrAt w lo g bs p) (hbad : ∀ n r, dec (bs.drop p) = some (n, r) → 200 < n ∨ r.length < n) (a2 : Addr) (h2 : w.cell? ⟨2, 0, none⟩ = some (errv a2)) :
    Calls Tryd.prog 150 #[.agg #[.pointer (some ⟨g, 0, none⟩)]] w (GaveUp a2 w) := by
  have h00 := World.block_lt_of_cell? w _ h2
  have hb : Below w.heap.size w (w.alloc (.cells #[.pointer (some ⟨g, 0, none⟩)] 187)) := (Below.refl w.heap.size w).alloc (Nat.le_refl _) _
  have k166 := rdtext_bad (w.alloc (.cells #[.pointer (some ⟨g, 0, none⟩)] 187)) lo g p 200 bs (h.below hb (Nat.le_refl _)) hbad (by omega) a2 ((hb.cell h00).trans h2)
  have HK := Lib.hid k166
  have HB := Lib.hid hb
  clear k166 hbad h h2 h00 hb
  go_enter Tryd.func150, Tryd.ntmps150
  go_upto_region 2 with (fail)
  refine HK.out.mono ?_
  rintro e w1 ⟨rfl, b1⟩
  go_wp2_with (fail)
  exact ⟨rfl, rfl, HB.out.trans (b1.mono HB.out.size)⟩
end Go.Proofs.YtnlncfjibbdimaaDoor
namespace Go.Proofs.YtnlncfjibbdimaaDoor
open Go.RowKit
set_option linter.unusedSimpArgs false
set_option linter.unusedVariables false
/-- A number of a command, off the front. -/
def pNum (R : List Nat) : Option (Nat × List Nat) :=
  match dec R with
  | some (n, r) => if n ≤ 1099511627776 then some (n, r) else none
  | none => none
/-- The reader gave up; its block may have moved on. -/
def Gave (a2 : Addr) (g : Nat) (w : World) (e : Ending) (w' : World) : Prop := e = brokenP a2 ∧ Fr w.heap.size (fun k => k = g) w w'
/-- What a call that reads one thing does. -/
def Reads {α : Type} (a2 : Addr) (lo g : Nat) (val : α → Value) (o : Option (α × List Nat)) (w : World) (e : Ending) (w' : World) : Prop :=
  match o with
  | some (n, r) => Got lo g (val n) r w e w'
  | none => Gave a2 g w e w'
theorem rd_numP {w : World} {lo g : Nat} {R : List Nat} {a2 : Addr} (h : Rem w lo g R) (h2 : w.cell? ⟨2, 0, none⟩ = some (errv a2)) :
    Calls Tryd.prog 148 #[.agg #[.pointer (some ⟨g, 0, none⟩)]] w (Reads a2 lo g (fun n : Nat => .int .i64 n) (pNum R) w) := by
  obtain ⟨bs, q, h1, rfl⟩ := h
  unfold pNum
  cases hd : dec (bs.drop q) with
  | none =>
    refine (rgnum_bad w lo g q bs h1 (fun n r hh => by rw [hd] at hh; cases hh) a2 h2).mono ?_
    rintro e w' ⟨he, hb⟩
    exact ⟨he, Fr.of_below hb _⟩
  | some x =>
    obtain ⟨n, r⟩ := x
    by_cases hn : n ≤ 1099511627776
    · simp only [hn, if_true]
      refine (rgnum_good w lo g q n bs r h1 hd hn).mono ?_
      rintro e w' ⟨q', h3, rfl, h4, h5⟩
      exact ⟨rfl, ⟨bs, q', h4, h3⟩, h5⟩
    · simp only [hn, if_false]
      refine (rgnum_bad w lo g q bs h1 (fun n' r' hh => by rw [hd] at hh; injection hh with hh; injection hh with hh _; omega) a2 h2).mono ?_
      rintro e w' ⟨he, hb⟩
      exact ⟨he, Fr.of_below hb _⟩
/-- The text of bytes. -/
def textOf (l : List Nat) : ByteArray := ⟨(l.map UInt8.ofNat).toArray⟩
theorem bytesN_textOf {l : List Nat} (hl : ∀ x ∈ l, x < 256) : bytesN (textOf l) = l := by
  simp only [bytesN, textOf, List.map_map]
  have h : ∀ x ∈ l, ((fun (b : UInt8) => b.toNat) ∘ UInt8.ofNat) x = x := fun x hx => by
    have := hl x hx
    simp [UInt8.toNat_ofNat]
    omega
  exact (List.map_congr_left h).trans (List.map_id _)
/-- A text of a command, off the front. -/
def pText (R : List Nat) : Option (ByteArray × List Nat) :=
  match dec R with
  | some (n, r) => if n ≤ 200 ∧ n ≤ r.length then some (textOf (r.take n), r.drop n) else none
  | none => none
theorem dec_rest {l r : List Nat} {n : Nat} (hl : ∀ x ∈ l, x < 256) (h : dec l = some (n, r)) : ∀ x ∈ r, x < 256 := fun x hx => hl x (by rw [dec_inv hl h]; simp [hx])
theorem rd_textP {w : World} {lo g : Nat} {R : List Nat} {a2 : Addr} (h : Rem w lo g R) (h2 : w.cell? ⟨2, 0, none⟩ = some (errv a2)) :
    Calls Tryd.prog 150 #[.agg #[.pointer (some ⟨g, 0, none⟩)]] w (Reads a2 lo g (fun s : ByteArray => .string s) (pText R) w) := by
  obtain ⟨bs, q, h1, rfl⟩ := h
  have h256 : ∀ x ∈ bs.drop q, x < 256 := fun x hx => h1.2.2.2.1 x (List.mem_of_mem_drop hx)
  unfold pText
  cases hd : dec (bs.drop q) with
  | none =>
    refine (rgtext_bad w lo g q bs h1 (fun n r hh => by rw [hd] at hh; cases hh) a2 h2).mono ?_
    rintro e w' ⟨he, hb⟩
    exact ⟨he, Fr.of_below hb _⟩
  | some x =>
    obtain ⟨n, r⟩ := x
    by_cases hn : n ≤ 200 ∧ n ≤ r.length
    · simp only [hn, and_self, if_true]
      have hb : bytesN (textOf (r.take n)) = r.take n := bytesN_textOf (fun x hx => dec_rest h256 hd x (List.mem_of_mem_take hx))
      have hs : (textOf (r.take n)).size = n := by
        rw [← bytesN_length, hb, List.length_take]
        omega
      refine (rgtext_good w lo g q bs (r.drop n) (textOf (r.take n)) h1 (by rw [hb, hs, List.take_append_drop]; exact hd) (by omega)).mono ?_
      rintro e w' ⟨q', h3, rfl, h4, h5⟩
      exact ⟨rfl, ⟨bs, q', h4, h3⟩, h5⟩
    · simp only [hn, if_false]
      refine (rgtext_bad w lo g q bs h1 (fun n' r' hh => by rw [hd] at hh; injection hh with hh; injection hh with hh hr; subst hh hr; omega) a2 h2).mono ?_
      rintro e w' ⟨he, hb⟩
      exact ⟨he, Fr.of_below hb _⟩
end Go.Proofs.YtnlncfjibbdimaaDoor
namespace Go.Proofs.YtnlncfjibbdimaaDoor
open Go.RowKit
set_option linter.unusedSimpArgs false
set_option linter.unusedVariables false
/-- An id off the front. -/
def pId (R : List Nat) : Option ((Nat × Nat × Nat) × List Nat) :=
  (pNum R).bind fun x => (pNum x.2).bind fun y => (pNum y.2).bind fun z => some ((x.1, y.1, z.1), z.2)
/-- Numbers off the front. -/
def pNums : Nat → List Nat → Option (List Int × List Nat)
  | 0, R => some ([], R)
  | n + 1, R => (pNum R).bind fun x => (pNums n x.2).bind fun y => some ((x.1 : Int) :: y.1, y.2)
/-- A command off the front, as the program reads it. -/
def pCmd (R : List Nat) : Option (Cmd × List Nat) :=
  (pNum R).bind fun k => (pId k.2).bind fun i => (pText i.2).bind fun b => (pText b.2).bind fun ke => (pId ke.2).bind fun u => (pId u.2).bind fun p => (pNum p.2).bind fun s => (pText s.2).bind fun e =>
  (pNum e.2).bind fun pt => (pNum pt.2).bind fun n => (pNums (min n.1 17) n.2).bind fun ps => (pNum ps.2).bind fun t => (pNum t.2).bind fun d =>
  some ({ kind := k.1, idn := i.1.1, idb := i.1.2.1, ids := i.1.2.2, bucket := b.1, key := ke.1, upn := u.1.1, upb := u.1.2.1, ups := u.1.2.2, pbn := p.1.1, pbb := p.1.2.1, pbs := p.1.2.2, psize := s.1, etag := e.1, part := pt.1, parts := ps.1, time := t.1, days := d.1 }, d.2)
theorem pNum_inv {R r : List Nat} {n : Nat} (hR : ∀ x ∈ R, x < 256) (h : pNum R = some (n, r)) : R = encI n ++ r ∧ n ≤ 1099511627776 ∧ ∀ x ∈ r, x < 256 := by
  unfold pNum at h
  cases hd : dec R with
  | none => rw [hd] at h; cases h
  | some y =>
    obtain ⟨m, r'⟩ := y
    rw [hd] at h
    simp only at h
    split at h
    · injection h with h
      injection h with h1 h2
      subst h1 h2
      exact ⟨by rw [encI, Int.toNat_natCast]; exact dec_inv hR hd, by assumption, dec_rest hR hd⟩
    · cases h
theorem pText_inv {R r : List Nat} {s : ByteArray} (hR : ∀ x ∈ R, x < 256) (h : pText R = some (s, r)) : R = encS s ++ r ∧ s.size ≤ 200 ∧ ∀ x ∈ r, x < 256 := by
  unfold pText at h
  cases hd : dec R with
  | none => rw [hd] at h; cases h
  | some y =>
    obtain ⟨m, r'⟩ := y
    rw [hd] at h
    simp only at h
    split at h
    · rename_i hm
      injection h with h
      injection h with h1 h2
      subst h1 h2
      have hr := dec_rest hR hd
      have hb : bytesN (textOf (r'.take m)) = r'.take m := bytesN_textOf (fun x hx => hr x (List.mem_of_mem_take hx))
      have hs : (textOf (r'.take m)).size = m := by
        rw [← bytesN_length, hb, List.length_take]
        omega
      refine ⟨?_, by omega, fun x hx => hr x (List.mem_of_mem_drop hx)⟩
      rw [encS, hb, hs, List.append_assoc, List.take_append_drop]
      exact dec_inv hR hd
    · cases h
theorem pId_some {R R1 R2 R3 : List Nat} {a b c : Nat} (h1 : pNum R = some (a, R1)) (h2 : pNum R1 = some (b, R2)) (h3 : pNum R2 = some (c, R3)) : pId R = some ((a, b, c), R3) := by
  simp only [pId, h1, h2, h3, Option.bind_some]
theorem pId_none1 {R : List Nat} (h1 : pNum R = none) : pId R = none := by simp only [pId, h1, Option.bind_none]
theorem pId_none2 {R R1 : List Nat} {a : Nat} (h1 : pNum R = some (a, R1)) (h2 : pNum R1 = none) : pId R = none := by simp only [pId, h1, h2, Option.bind_none, Option.bind_some]
theorem pId_none3 {R R1 R2 : List Nat} {a b : Nat} (h1 : pNum R = some (a, R1)) (h2 : pNum R1 = some (b, R2)) (h3 : pNum R2 = none) : pId R = none := by simp only [pId, h1, h2, h3, Option.bind_none, Option.bind_some]
theorem bind_some_inv {α β : Type} {o : Option α} {f : α → Option β} {b : β} (h : o.bind f = some b) : ∃ a, o = some a ∧ f a = some b := by
  cases o with
  | none => cases h
  | some a => exact ⟨a, rfl, h⟩
theorem pId_inv {R r : List Nat} {x : Nat × Nat × Nat} (hR : ∀ x ∈ R, x < 256) (h : pId R = some (x, r)) : R = encI x.1 ++ encI x.2.1 ++ encI x.2.2 ++ r ∧ (x.1 ≤ 1099511627776 ∧ x.2.1 ≤ 1099511627776 ∧ x.2.2 ≤ 1099511627776) ∧ ∀ x ∈ r, x < 256 := by
  obtain ⟨⟨a, R1⟩, h1, h⟩ := bind_some_inv h
  obtain ⟨⟨b, R2⟩, h2, h⟩ := bind_some_inv h
  obtain ⟨⟨c, R3⟩, h3, h⟩ := bind_some_inv h
  injection h with h
  injection h with h4 h5
  subst h4 h5
  obtain ⟨e1, l1, q1⟩ := pNum_inv hR h1
  obtain ⟨e2, l2, q2⟩ := pNum_inv q1 h2
  obtain ⟨e3, l3, q3⟩ := pNum_inv q2 h3
  exact ⟨by rw [e1, e2, e3]; simp only [List.append_assoc], ⟨l1, l2, l3⟩, q3⟩
theorem pNums_inv : ∀ {n : Nat} {R r : List Nat} {xs : List Int}, (∀ x ∈ R, x < 256) → pNums n R = some (xs, r) → R = xs.flatMap encI ++ r ∧ xs.length = n ∧ (∀ x ∈ xs, inG x) ∧ ∀ x ∈ r, x < 256
  | 0, R, r, xs, hR, h => by
    injection h with h
    injection h with h1 h2
    subst h1 h2
    exact ⟨rfl, rfl, by simp, hR⟩
  | n + 1, R, r, xs, hR, h => by
    obtain ⟨⟨a, R1⟩, h1, h⟩ := bind_some_inv h
    obtain ⟨⟨ys, R2⟩, h2, h⟩ := bind_some_inv h
    injection h with h
    injection h with h4 h5
    subst h4 h5
    obtain ⟨e1, l1, q1⟩ := pNum_inv hR h1
    obtain ⟨e2, l2, g2, q2⟩ := pNums_inv q1 h2
    refine ⟨by rw [e1, e2, List.flatMap_cons, List.append_assoc], by rw [List.length_cons, l2], ?_, q2⟩
    intro x hx
    rcases List.mem_cons.1 hx with rfl | hx
    · unfold inG; omega
    · exact g2 x hx
/-- One number more behind those read. -/
theorem pNums_snoc : ∀ {k : Nat} {R r r' : List Nat} {xs : List Int} {x : Nat}, pNums k R = some (xs, r) → pNum r = some (x, r') → pNums (k + 1) R = some (xs ++ [(x : Int)], r')
  | 0, R, r, r', xs, x, h, hx => by
    injection h with h
    injection h with h1 h2
    subst h1 h2
    simp [pNums, hx]
  | k + 1, R, r, r', xs, x, h, hx => by
    obtain ⟨⟨a, R1⟩, h1, h⟩ := bind_some_inv h
    obtain ⟨⟨ys, R2⟩, h2, h⟩ := bind_some_inv h
    injection h with h
    injection h with h4 h5
    subst h4 h5
    have := pNums_snoc h2 hx
    rw [pNums, h1]
    simp only [Option.bind_some, this, List.cons_append]
theorem pNums_stop : ∀ {k n : Nat} {R r : List Nat} {xs : List Int}, pNums k R = some (xs, r) → pNum r = none → k < n → pNums n R = none
  | 0, 0, _, _, _, _, _, hk => absurd hk (by omega)
  | 0, n + 1, R, r, xs, h, hx, _ => by
    injection h with h
    injection h with h1 h2
    subst h1 h2
    simp [pNums, hx]
  | k + 1, 0, _, _, _, _, _, hk => absurd hk (by omega)
  | k + 1, n + 1, R, r, xs, h, hx, hk => by
    obtain ⟨⟨a, R1⟩, h1, h⟩ := bind_some_inv h
    obtain ⟨⟨ys, R2⟩, h2, h⟩ := bind_some_inv h
    injection h with h
    injection h with h4 h5
    subst h4 h5
    have := pNums_stop h2 hx (by omega : k < n)
    rw [pNums, h1]
    simp only [Option.bind_some, this, Option.bind_none]
/-- What was read as a command in form was written by putN. -/
theorem pCmd_inv {R r : List Nat} {c : Cmd} (hR : ∀ x ∈ R, x < 256) (h : pCmd R = some (c, r)) :
    (c.bucket.size ≤ 200 ∧ c.key.size ≤ 200 ∧ c.etag.size ≤ 200) ∧ (∀ x ∈ c.parts, inG x) ∧ (c.parts.length ≤ 16 → R = putN c ++ r) := by
  obtain ⟨⟨k, L1⟩, h0, h⟩ := bind_some_inv h
  obtain ⟨⟨i, L2⟩, h1, h⟩ := bind_some_inv h
  obtain ⟨⟨b, L3⟩, h2, h⟩ := bind_some_inv h
  obtain ⟨⟨ke, L4⟩, h3, h⟩ := bind_some_inv h
  obtain ⟨⟨u, L5⟩, h4, h⟩ := bind_some_inv h
  obtain ⟨⟨p, L6⟩, h5, h⟩ := bind_some_inv h
  obtain ⟨⟨s, L7⟩, h6, h⟩ := bind_some_inv h
  obtain ⟨⟨e, L8⟩, h7, h⟩ := bind_some_inv h
  obtain ⟨⟨pt, L9⟩, h8, h⟩ := bind_some_inv h
  obtain ⟨⟨n, L10⟩, h9, h⟩ := bind_some_inv h
  obtain ⟨⟨ps, L11⟩, h10, h⟩ := bind_some_inv h
  obtain ⟨⟨t, L12⟩, h11, h⟩ := bind_some_inv h
  obtain ⟨⟨d, L13⟩, h12, h⟩ := bind_some_inv h
  injection h with h
  injection h with h13 h14
  subst h13 h14
  simp only at h1 h2 h3 h4 h5 h6 h7 h8 h9 h10 h11 h12 ⊢
  obtain ⟨e0, _, q0⟩ := pNum_inv hR h0
  obtain ⟨e1, _, q1⟩ := pId_inv q0 h1
  obtain ⟨e2, z2, q2⟩ := pText_inv q1 h2
  obtain ⟨e3, z3, q3⟩ := pText_inv q2 h3
  obtain ⟨e4, _, q4⟩ := pId_inv q3 h4
  obtain ⟨e5, _, q5⟩ := pId_inv q4 h5
  obtain ⟨e6, _, q6⟩ := pNum_inv q5 h6
  obtain ⟨e7, z7, q7⟩ := pText_inv q6 h7
  obtain ⟨e8, _, q8⟩ := pNum_inv q7 h8
  obtain ⟨e9, _, q9⟩ := pNum_inv q8 h9
  obtain ⟨e10, l10, g10, q10⟩ := pNums_inv q9 h10
  obtain ⟨e11, _, q11⟩ := pNum_inv q10 h11
  obtain ⟨e12, _, q12⟩ := pNum_inv q11 h12
  refine ⟨⟨z2, z3, z7⟩, g10, fun hl => ?_⟩
  have hn : n = ps.length := by omega
  subst hn
  rw [e0, e1, e2, e3, e4, e5, e6, e7, e8, e9, e10, e11, e12]
  simp only [putN, putHead, List.append_assoc]
theorem pCmd_put {R : List Nat} {c : Cmd} (hR : ∀ x ∈ R, x < 256) (h : pCmd R = some (c, [])) (hc : chkB c = true) : R = putN c := by
  have := (pCmd_inv hR h).2.2 (chk_rng hc).parts.2
  rw [List.append_nil] at this
  exact this
end Go.Proofs.YtnlncfjibbdimaaDoor
namespace Go.Proofs.YtnlncfjibbdimaaDoor
open Go.RowKit
set_option linter.unusedSimpArgs false
set_option linter.unusedVariables false
/-- Gave up, or got. -/
def Ways (a2 : Addr) (lo g : Nat) (v : Value) (Pn Ps : Prop) (R' : List Nat) (w : World) (e : Ending) (w' : World) : Prop :=
  (Gave a2 g w e w' ∧ Pn) ∨ (Got lo g v R' w e w' ∧ Ps)
theorem Reads.ways {α : Type} {a2 : Addr} {lo g : Nat} {val : α → Value} {o : Option (α × List Nat)} (d : α) :
    ∃ (v : α) (R' : List Nat), ∀ w e w', Reads a2 lo g val o w e w' → Ways a2 lo g (val v) (o = none) (o = some (v, R')) R' w e w' := by
  cases o with
  | none => exact ⟨d, [], fun w e w' h => .inl ⟨h, rfl⟩⟩
  | some x =>
    obtain ⟨v, r⟩ := x
    exact ⟨v, r, fun w e w' h => .inr ⟨h, rfl⟩⟩
theorem Reads.of_none {α : Type} {a2 : Addr} {lo g : Nat} {val : α → Value} {o : Option (α × List Nat)} {w : World} {e : Ending} {w' : World} (h : o = none) (hg : Gave a2 g w e w') : Reads a2 lo g val o w e w' := by
  subst h
  exact hg
theorem Reads.of_some {α : Type} {a2 : Addr} {lo g : Nat} {val : α → Value} {o : Option (α × List Nat)} {v : α} {R' : List Nat} {w : World} {e : Ending} {w' : World} (h : o = some (v, R')) (hg : Got lo g (val v) R' w e w') : Reads a2 lo g val o w e w' := by
  subst h
  exact hg
theorem numW (a2 : Addr) (lo g : Nat) (R : List Nat) : ∃ (n : Nat) (R' : List Nat), ∀ W, Rem W lo g R → W.cell? ⟨2, 0, none⟩ = some (errv a2) →
    Calls Tryd.prog 148 #[.agg #[.pointer (some ⟨g, 0, none⟩)]] W (Ways a2 lo g (.int .i64 n) (pNum R = none) (pNum R = some (n, R')) R' W) := by
  obtain ⟨n, R', h⟩ := Reads.ways (a2 := a2) (lo := lo) (g := g) (val := fun n : Nat => .int .i64 n) (o := pNum R) 0
  exact ⟨n, R', fun W hR h2 => (rd_numP hR h2).mono (fun e w' hh => h _ _ _ hh)⟩
theorem textW (a2 : Addr) (lo g : Nat) (R : List Nat) : ∃ (s : ByteArray) (R' : List Nat), ∀ W, Rem W lo g R → W.cell? ⟨2, 0, none⟩ = some (errv a2) →
    Calls Tryd.prog 150 #[.agg #[.pointer (some ⟨g, 0, none⟩)]] W (Ways a2 lo g (.string s) (pText R = none) (pText R = some (s, R')) R' W) := by
  obtain ⟨n, R', h⟩ := Reads.ways (a2 := a2) (lo := lo) (g := g) (val := fun s : ByteArray => .string s) (o := pText R) ⟨#[]⟩
  exact ⟨n, R', fun W hR h2 => (rd_textP hR h2).mono (fun e w' hh => h _ _ _ hh)⟩
/-- The errors' cell through a call that moves the reader's block alone. -/
theorem cell2_fr {w W : World} {lo g : Nat} {v : Value} (hlo : 2 < lo) (hg : lo ≤ g) (h2 : w.cell? ⟨2, 0, none⟩ = some v) (f : Fr w.heap.size (fun k => k = g) w W) : W.cell? ⟨2, 0, none⟩ = some v :=
  (f.cell (p := ⟨2, 0, none⟩) (World.block_lt_of_cell? w _ h2) (by simp; omega)).trans h2
set_option maxRecDepth 100000 in
set_option maxHeartbeats 3200000 in
theorem rd_idP {w : World} {lo g : Nat} {R : List Nat} {a2 : Addr} (h : Rem w lo g R) (hlo : 2 < lo) (h2 : w.cell? ⟨2, 0, none⟩ = some (errv a2)) :
    Calls Tryd.prog 149 #[.agg #[.pointer (some ⟨g, 0, none⟩)]] w (Reads a2 lo g (fun x : Nat × Nat × Nat => .agg #[.int .i64 x.1, .int .i64 x.2.1, .int .i64 x.2.2]) (pId R) w) := by
  have hgl := h.lt
  obtain ⟨a, R1, k1⟩ := numW a2 lo g R
  obtain ⟨b, R2, k2⟩ := numW a2 lo g R1
  obtain ⟨c, R3, k3⟩ := numW a2 lo g R2
  have HK1 := Lib.hid (fun W hR f => k1 W hR (cell2_fr hlo hgl.1 h2 f))
  have HK2 := Lib.hid (fun W hR f => k2 W hR (cell2_fr hlo hgl.1 h2 f))
  have HK3 := Lib.hid (fun W hR f => k3 W hR (cell2_fr hlo hgl.1 h2 f))
  clear k1 k2 k3 h2
  go_enter Tryd.func149, Tryd.ntmps149
  go_upto_region 1 with (fail)
  refine wp_letter (fun W => Rem W lo g R ∧ Fr w.heap.size (fun k => k = g) w W ∧ Blk W w.heap.size 187 #[.pointer (some ⟨g, 0, none⟩)] ∧ Blk W (w.heap.size + 1) 74 #[.int .i64 0, .int .i64 0, .int .i64 0])
    ⟨(h.alloc _).alloc _, ((Fr.refl w.heap.size (fun k => k = g) w).alloc (Nat.le_refl _) _).alloc (by simp) _, (Blk.new w 187 _).alloc _, Blk.new1 w _ 74 _⟩ ?_
  rintro W ⟨hR, hf, hX, hY⟩
  obtain ⟨x, hx⟩ : ∃ x, x = w.heap.size := ⟨_, rfl⟩
  have hxg : x ≠ g := by omega
  have hyg : x + 1 ≠ g := by omega
  have hxw : w.heap.size ≤ x + 1 := by omega
  rw [← hx] at hX hY ⊢
  have cX := hX.cell
  have cX0 := cX 0
  have H0 := Lib.hid (And.intro hR.drew (And.intro hf.drew (And.intro hX.drew hY.drew)))
  clear hR hf hX hY hx h cX
  go_region_held2 (fun w' => w'.cell? ⟨x, 0, none⟩ = some (.pointer (some ⟨g, 0, none⟩))) (go_keep)
    (first
     | (go_at_call 148; (with_reducible refine (HK1.out W.drew H0.out.1 H0.out.2.1).mono ?_); rintro e w1 hh; rcases hh with ⟨⟨rfl, f1⟩, p1⟩ | ⟨⟨rfl, R1, f1⟩, p1⟩; (exact ⟨rfl, Reads.of_none (pId_none1 p1) ⟨rfl, FrG.trans H0.out.2.1 f1⟩⟩); have X1 := H0.out.2.2.1.keep f1 hxg; have Y1 := H0.out.2.2.2.keep f1 hyg; have c1 := X1.cell 0; have F1 := FrG.trans H0.out.2.1 f1; have H1 := Lib.hid (And.intro R1 (And.intro F1 (And.intro X1 Y1))); have P1 := Lib.hid p1; clear R1 f1 X1 Y1 F1 p1)
     | (go_at_call 148; (with_reducible refine (HK2.out w1 H1.out.1 H1.out.2.1).mono ?_); rintro e w2 hh; rcases hh with ⟨⟨rfl, f2⟩, p2⟩ | ⟨⟨rfl, R2, f2⟩, p2⟩; (exact ⟨rfl, Reads.of_none (pId_none2 P1.out p2) ⟨rfl, FrG.trans H1.out.2.1 f2⟩⟩); have X2 := H1.out.2.2.1.keep f2 hxg; have Y2 := H1.out.2.2.2.keep f2 hyg; have c2 := X2.cell 0; have F2 := FrG.trans H1.out.2.1 f2; have H2 := Lib.hid (And.intro R2 (And.intro F2 (And.intro X2 Y2))); have P2 := Lib.hid p2; clear R2 f2 X2 Y2 F2 p2)
     | (go_at_call 148; (with_reducible refine (HK3.out w2 H2.out.1 H2.out.2.1).mono ?_); rintro e w3 hh; rcases hh with ⟨⟨rfl, f3⟩, p3⟩ | ⟨⟨rfl, R3, f3⟩, p3⟩; (exact ⟨rfl, Reads.of_none (pId_none3 P1.out P2.out p3) ⟨rfl, FrG.trans H2.out.2.1 f3⟩⟩); have X3 := H2.out.2.2.1.keep f3 hxg; have Y3 := H2.out.2.2.2.keep f3 hyg; have c3 := X3.cell 0; have y3 := Y3.cell; have z3 := Y3.frozen; have F3 := FrG.trans H2.out.2.1 f3; have H3 := Lib.hid (And.intro R3 (And.intro F3 (And.intro X3 Y3))); have P3 := Lib.hid p3; clear R3 f3 X3 Y3 F3 p3))
  have hY := H3.out.2.2.2
  have hA := (H3.out.1.far hY (by decide) (Ne.symm hyg) 0 (.int .i64 a)).far (hY.set_ 0 _) (by decide) (Ne.symm hyg) 1 (.int .i64 b)
  have hA := hA.far ((hY.set_ 0 _).set_ 1 _) (by decide) (Ne.symm hyg) 2 (.int .i64 c)
  have hF := ((H3.out.2.1.setCell (p := ⟨x + 1, 0, none⟩) (.inr hxw) (.int .i64 a)).setCell (p := ⟨x + 1, 1, none⟩) (.inr hxw) (.int .i64 b)).setCell (p := ⟨x + 1, 2, none⟩) (.inr hxw) (.int .i64 c)
  have HA := Lib.hid (And.intro hA hF)
  clear hY hA hF c1 c2 c3 cX0 H0 H1 H2 H3 HK1 HK2 HK3
  go_wp2_with (fail)
  exact bodyPost_ret (v := .agg #[.int .i64 a, .int .i64 b, .int .i64 c]) (by simp [results, Tryd.results149, go_sem, y3]) rfl (Reads.of_some (pId_some P1.out P2.out P3.out) ⟨rfl, HA.out.1, HA.out.2⟩)
theorem idW (a2 : Addr) (lo g : Nat) (R : List Nat) (hlo : 2 < lo) : ∃ (a b c : Nat) (R' : List Nat), ∀ W, Rem W lo g R → W.cell? ⟨2, 0, none⟩ = some (errv a2) →
    Calls Tryd.prog 149 #[.agg #[.pointer (some ⟨g, 0, none⟩)]] W (Ways a2 lo g (.agg #[.int .i64 a, .int .i64 b, .int .i64 c]) (pId R = none) (pId R = some ((a, b, c), R')) R' W) := by
  obtain ⟨n, R', h⟩ := Reads.ways (a2 := a2) (lo := lo) (g := g) (val := fun x : Nat × Nat × Nat => .agg #[.int .i64 x.1, .int .i64 x.2.1, .int .i64 x.2.2]) (o := pId R) (0, 0, 0)
  obtain ⟨a, b, c⟩ := n
  exact ⟨a, b, c, R', fun W hR h2 => (rd_idP hR hlo h2).mono (fun e w' hh => h _ _ _ hh)⟩
end Go.Proofs.YtnlncfjibbdimaaDoor

namespace Go.Proofs.YtnlncfjibbdimaaDoor
open Go.RowKit
set_option linter.unusedSimpArgs false
set_option linter.unusedVariables false
/-- A call that hands back new bytes. -/
def NewB (w : World) (bs : List Nat) (e : Ending) (w' : World) : Prop := ∃ v, e = .returned v ∧ OwnB w' w.heap.size v bs ∧ Below w.heap.size w w'
theorem rd_one (w : World) (q : Nat) : Rd (w.alloc (.cells #[.int .u8 q] 5)) 0 (w.heap.size + 1) 1 (some ⟨w.heap.size, 0, none⟩) [q].length (u8s [q]) :=
  ⟨rfl, fun _ => ⟨_, rfl, Nat.zero_le _, by simp, fun j u hu => by rw [Addr.add_mid, Nat.zero_add, (Blk.new w 5 _).cell j]; simpa [u8s] using hu⟩⟩
theorem OwnB.made (w : World) : OwnB (w.alloc (.cells #[] 5)) w.heap.size (.slice (some ⟨w.heap.size, 0, none⟩) 0 0) [] :=
  ⟨⟨_, 0, rfl⟩, by simp, rfl, .inr ⟨w.heap.size, 0, #[], rfl, Nat.le_refl _, heap_alloc_new w _, Nat.le_refl _, Nat.zero_le _, rfl, rfl⟩⟩
set_option maxRecDepth 100000 in
set_option maxHeartbeats 3200000 in
theorem rnum_any (w : World) (n : Nat) (hl : (enc n).length ≤ 140737488355328) (hn : n ≤ 9223372036854775807) : Calls Tryd.prog 133 #[.int .i64 n] w (NewB w (enc n)) := by
  go_enter Tryd.func133, Tryd.ntmps133
  go_wp2
  go_loopw [0, 3] (fun v u wr => ∃ (m : Nat) (bs' : List Nat) (A : Option Addr) (c : Nat), v = .int .i64 m ∧ m ≤ 9223372036854775807 ∧ bs' ++ enc m = enc n ∧ u = .slice A bs'.length c ∧ OwnB wr w.heap.size u bs' ∧ Below w.heap.size w wr) (fun v _ _ => (intOf v).toNat)
  case atStart => exact ⟨n, [], some ⟨w.heap.size, 0, none⟩, 0, rfl, hn, rfl, rfl, OwnB.made w, (Below.refl _ _).alloc (Nat.le_refl _) _⟩
  case round =>
    obtain ⟨m, bs', A, c, rfl, hm, hbs, rfl, hO, hb⟩ := hrel
    have hlen : bs'.length + (enc m).length ≤ 140737488355328 := by
      have := congrArg List.length hbs
      simp only [List.length_append] at this
      omega
    have hep := enc_pos m
    obtain ⟨q, hq⟩ : ∃ q, q = m % 128 := ⟨_, rfl⟩
    obtain ⟨d, hd⟩ : ∃ d, d = m / 128 := ⟨_, rfl⟩
    have hb1 : (m : Int).tmod 128 = (q : Int) := by rw [Int.tmod_eq_emod_of_nonneg (by omega)]; omega
    have hb4 : (m : Int).tdiv 128 = (d : Int) := by rw [Int.tdiv_eq_ediv_of_nonneg (by omega)]; omega
    have hb2 : (q : Int) % 256 = q := by omega
    have hO1 := Lib.hid hO
    have HB := Lib.hid hb
    by_cases h0 : d = 0
    · have hE : enc m = [q] := by rw [enc_small (by omega), hq, Nat.mod_eq_of_lt (by omega)]
      have HE := Lib.hid hE
      have HBS := Lib.hid hbs
      have HL := Lib.hid hlen
      subst h0
      have HW := Lib.hid (And.intro (hO.below ((Below.refl wr.heap.size wr).alloc (Nat.le_refl _) (.cells #[.int .u8 q] 5)) (Nat.le_refl _)) (rd_one wr q))
      have hsz := hb.size
      have HS := Lib.hid hsz
      clear hbs hlen hep hq hd hO hb hE hsz
      go_wp2_with (at_builtin
                   refine law_append8 (.tmp 13) (.tmp 15) w.heap.size 0 (wr.heap.size + 1) (.slice A bs'.length c) bs' [q] (some ⟨wr.heap.size, 0, none⟩) 1 rfl rfl rfl HW.out.1 rfl HW.out.2 (by have := HL.out; rw [HE.out] at this; exact this) (by have := HS.out; simp; omega) ?_
                   intro A1 c1 W1 o1 f1
                   have HO1 := Lib.hid o1
                   have HF1 := Lib.hid f1
                   clear o1 f1)
      go_ret
      have e1 := HBS.out
      rw [HE.out] at e1
      have e2 := HO1.out
      rw [e1] at e2
      exact ⟨_, rfl, e2, (HB.out.alloc HS.out _).trans HF1.out.1⟩
    · obtain ⟨e, he⟩ : ∃ e, e = q + 128 := ⟨_, rfl⟩
      have hb3 : ((q : Int) + 128) % 256 = (e : Int) := by omega
      have hE : enc m = e :: enc d := by rw [enc_big (by omega), he, hq, hd]
      have hdm : d < m := by omega
      have HE := Lib.hid hE
      have HBS := Lib.hid hbs
      have HL := Lib.hid hlen
      have HW := Lib.hid (And.intro (hO.below ((Below.refl wr.heap.size wr).alloc (Nat.le_refl _) (.cells #[.int .u8 e] 5)) (Nat.le_refl _)) (rd_one wr e))
      have hsz := hb.size
      have HS := Lib.hid hsz
      clear hbs hlen hep hq hd hO hb hE he hsz
      go_wp2_with (at_builtin
                   refine law_append8 (.tmp 17) (.tmp 20) w.heap.size 0 (wr.heap.size + 1) (.slice A bs'.length c) bs' [e] (some ⟨wr.heap.size, 0, none⟩) 1 rfl rfl rfl HW.out.1 rfl HW.out.2 (by have := HL.out; rw [HE.out, List.length_cons] at this; simp only [List.length_cons, List.length_nil]; omega) (by have := HS.out; simp; omega) ?_
                   intro A1 c1 W1 o1 f1
                   have HO1 := Lib.hid o1
                   have HF1 := Lib.hid f1
                   clear o1 f1)
      go_roundw
      case rel => exact ⟨d, bs' ++ [e], A1, c1, by go_num, by omega, by rw [← HBS.out, HE.out]; simp, by simp, HO1.out, (HB.out.alloc HS.out _).trans HF1.out.1⟩
      case measure => simp [intOf]; omega
set_option maxRecDepth 100000 in
set_option maxHeartbeats 1600000 in
theorem rbytes_any (w : World) (lo hi : Nat) (A : Option Addr) (c : Nat) (bs : List Nat) (hr : Rd w lo hi 1 A bs.length (u8s bs)) (hhi : hi ≤ w.heap.size) (hl : (enc bs.length).length + bs.length ≤ 140737488355328) :
    Calls Tryd.prog 111 #[.slice A bs.length c] w (NewB w (enc bs.length ++ bs)) := by
  have k133 := fun W => rnum_any W bs.length (by omega) (by omega)
  have hst : ∀ W, Below w.heap.size w W → Rd W lo hi 1 A bs.length (u8s bs) := fun W h => hr.fr (Fr.of_below h (fun _ => False)) hhi (fun _ _ _ h => h)
  have HST := Lib.hid hst
  have HL := Lib.hid hl
  clear hst hr hl
  go_enter Tryd.func111, Tryd.ntmps111
  go_wp2_with (first
               | (at_builtin
                  refine law_append8 (.tmp 5) (.tmp 6) w.heap.size lo hi _ (enc bs.length) bs A c rfl rfl rfl HO.out.1 rfl (HST.out _ HO.out.2) HL.out (HO.out.2.size) ?_
                  intro A1 c1 W1 o1 f1
                  have HO1 := Lib.hid o1
                  have HF1 := Lib.hid f1
                  clear o1 f1)
               | (go_at_call 133
                  refine (k133 _).mono ?_
                  rintro e w1 ⟨v1, rfl, o1, b1⟩
                  obtain ⟨⟨A0, c0, hv0⟩, ho0⟩ := id o1
                  have HO := Lib.hid (And.intro o1 b1)
                  subst hv0
                  clear o1 b1 ho0))
  go_ret
  exact ⟨_, rfl, HO1.out, HO.out.2.trans HF1.out.1⟩
theorem rnum_int (w : World) (x : Int) (hx : 0 ≤ x ∧ x ≤ 9223372036854775807) (hl : (encI x).length ≤ 140737488355328) : Calls Tryd.prog 133 #[.int .i64 x] w (NewB w (encI x)) := by
  have := rnum_any w x.toNat hl (by omega)
  rw [Int.toNat_of_nonneg hx.1] at this
  exact this
theorem flat_take {l : List Int} {k : Nat} {x : Int} (h : l[k]? = some x) : (l.take (k + 1)).flatMap encI = (l.take k).flatMap encI ++ encI x := by
  rw [List.take_add_one, h, List.flatMap_append]
  simp
theorem flat_take_len (l : List Int) (k : Nat) : ((l.take k).flatMap encI).length ≤ (l.flatMap encI).length := by
  have : (l.flatMap encI) = (l.take k).flatMap encI ++ (l.drop k).flatMap encI := by rw [← List.flatMap_append, List.take_append_drop]
  rw [this, List.length_append]
  omega
/-- A call that puts bytes onto a row of the caller's own. -/
def PutB (lo : Nat) (w : World) (bs : List Nat) (e : Ending) (w' : World) : Prop := ∃ v, e = .returned v ∧ OwnB w' lo v bs ∧ BFr lo w w'
set_option maxRecDepth 100000 in
set_option maxHeartbeats 1600000 in
theorem rnums_any (w : World) (lo lo1 hi1 : Nat) (v lv : Value) (bs : List Nat) (l : List Int) (hO : OwnB w lo v bs) (hlo : lo ≤ w.heap.size) (hst : ∀ W, BFr lo w W → IntsAt W lo1 hi1 lv l)
    (hg : ∀ x ∈ l, 0 ≤ x ∧ x ≤ 9223372036854775807) (hl : bs.length + (l.flatMap encI).length ≤ 140737488355328) : Calls Tryd.prog 110 #[v, lv] w (PutB lo w (bs ++ l.flatMap encI)) := by
  obtain ⟨LA, LC, rfl, hc1, hc2, _, _⟩ := hst w (BFr.refl lo w)
  have hn63 : l.length ≤ 9223372036854775807 := by simp only [maxLen] at hc2; omega
  obtain ⟨n, hn⟩ : ∃ n, n = l.length := ⟨_, rfl⟩
  rw [← hn] at hst hn63 ⊢
  have hrd : ∀ W, BFr lo w W → ∀ k x, l[k]? = some x → ∃ b o, LA = some ⟨b, o, none⟩ ∧ W.cell? ⟨b, o + k, none⟩ = some (.int .i64 x) := fun W hW k x hx => by
    obtain ⟨_, _, he, _, _, _, hr⟩ := hst W hW
    injection he with e1 e2 e3
    subst e1
    have hk := (List.getElem?_eq_some_iff.1 hx).1
    obtain ⟨ad, rfl, _, _, hcell⟩ := hr.2 (by omega)
    obtain ⟨b, o, sp⟩ := ad
    have hck := hcell k (.int .i64 x) (by rw [ints_getElem?, hx]; rfl)
    have h0 : 0 < l.length := by omega
    have hc0 := hcell 0 _ (by rw [ints_getElem?, List.getElem?_eq_getElem h0]; rfl)
    have hsp : sp = none := by simpa [Addr.add] using World.cell?_spot hc0
    subst hsp
    rw [Addr.add_mid] at hck
    exact ⟨b, o, rfl, hck⟩
  have HRD := Lib.hid hrd
  have HG := Lib.hid hg
  have HL := Lib.hid hl
  have HN := Lib.hid hn
  have HLO := Lib.hid hlo
  obtain ⟨⟨A0, c0, rfl⟩, _⟩ := id hO
  have HO0 := Lib.hid hO
  clear hst hrd hg hl hn hO hlo hc1 hc2
  go_enter Tryd.func110, Tryd.ntmps110
  go_wp2_with (fail)
  go_loopw [0, 9] (fun v i wr => ∃ (k : Nat) (A : Option Addr) (c : Nat) (cs : List Nat), k ≤ n ∧ i = .int .i64 k ∧ cs = bs ++ (l.take k).flatMap encI ∧ v = .slice A cs.length c ∧ OwnB wr lo v cs ∧ BFr lo w wr) (fun _ i _ => n - (intOf i).toNat)
  case atStart => exact ⟨0, A0, c0, bs, Nat.zero_le _, rfl, by simp, rfl, HO0.out, BFr.refl _ _⟩
  case round =>
    obtain ⟨k, A, c, cs, hk, rfl, hcs, rfl, hO, hf⟩ := hrel
    have HCS := Lib.hid hcs
    have HO := Lib.hid (And.intro hO hf)
    clear hcs hO hf
    by_cases hlt : k < n
    · obtain ⟨x, hx⟩ : ∃ x, l[k]? = some x := ⟨_, List.getElem?_eq_getElem (by rw [← HN.out]; exact hlt)⟩
      have hxr := HG.out x (List.mem_of_getElem? hx)
      obtain ⟨b, o, rfl, hck⟩ := HRD.out wr HO.out.2 k x hx
      have hstep := flat_take (l := l) hx
      have hlen : (enc x.toNat).length ≤ 140737488355328 ∧ cs.length + (encI x).length ≤ 140737488355328 := by
        have h1 := flat_take_len l (k + 1)
        have h2 := HL.out
        rw [hstep, List.length_append] at h1
        rw [HCS.out, List.length_append]
        have h3 : (encI x).length = (enc x.toNat).length := rfl
        omega
      have k133 := fun W => rnum_int W x hxr hlen.1
      have HST := Lib.hid hstep
      have HLEN := Lib.hid hlen
      clear hxr hx hstep hlen
      go_wp2_with (first
                   | (at_builtin
                      refine law_append8 (.tmp 13) (.tmp 15) lo wr.heap.size w1.heap.size (.slice A cs.length c) cs (encI x) A1 c1 rfl rfl rfl (HO.out.1.below HN1.out.2 (Nat.le_refl _)) rfl HR1.out HLEN.out.2 (by have := HLO.out; have := HO.out.2.size; have := HN1.out.2.size; omega) ?_
                      intro A2 c2 W2 o2 f2
                      have HO2 := Lib.hid o2
                      have HF2 := Lib.hid f2
                      clear o2 f2)
                   | (go_at_call 133
                      refine (k133 _).mono ?_
                      rintro e w1 ⟨v1, rfl, o1, b1⟩
                      obtain ⟨A1, c1, hv1, r1⟩ := o1.rd
                      subst hv1
                      have HN1 := Lib.hid (And.intro o1 b1)
                      have HR1 := Lib.hid r1
                      clear o1 b1 r1))
      go_roundw
      case rel => exact ⟨k + 1, A2, c2, cs ++ encI x, by omega, by go_num, by rw [HST.out, HCS.out, List.append_assoc], by simp, HO2.out, (HO.out.2.trans (BFr.of_below HN1.out.2 (by have := HLO.out; have := HO.out.2.size; omega))).trans HF2.out⟩
      case measure => simp [intOf]; omega
    · have hkn : k = n := by omega
      have hall : l.take k = l := by rw [hkn, HN.out, List.take_length]
      have HA := Lib.hid hall
      clear hkn hall
      go_wp2_with (fail)
      go_ret
      have h := HCS.out
      rw [HA.out] at h
      rw [← h]
      exact ⟨_, rfl, HO.out.1, HO.out.2⟩
end Go.Proofs.YtnlncfjibbdimaaDoor

namespace Go.Proofs.YtnlncfjibbdimaaDoor
open Go.RowKit
set_option linter.unusedSimpArgs false
set_option linter.unusedVariables false
/-- The number of bytes, the lowest first. -/
def val : List Nat → Nat
  | [] => 0
  | c :: r => c % 128 + 128 * val r
theorem take_snoc {l : List Nat} {k x : Nat} (h : l[k]? = some x) : l.take (k + 1) = l.take k ++ [x] := by rw [List.take_add_one, h]; rfl
theorem textOf_eq {a b : List Nat} (ha : ∀ x ∈ a, x < 256) (hb : ∀ x ∈ b, x < 256) : ((textOf a).toList == (textOf b).toList) = decide (a = b) := by
  by_cases h : a = b
  · subst h
    simp
  · rw [decide_eq_false h, beq_eq_false_iff_ne]
    intro he
    rw [ByteArray.toList_eq, ByteArray.toList_eq] at he
    apply h
    rw [← bytesN_textOf ha, ← bytesN_textOf hb]
    unfold bytesN
    rw [he]
theorem textOf_bytesN (s : ByteArray) : textOf (bytesN s) = s := by
  obtain ⟨⟨l⟩⟩ := s
  simp only [textOf, bytesN, List.map_map]
  congr 2
  have h : ∀ x ∈ l, (UInt8.ofNat ∘ fun (b : UInt8) => b.toNat) x = x := fun x _ => by simp
  exact (List.map_congr_left h).trans (List.map_id _)
end Go.Proofs.YtnlncfjibbdimaaDoor
namespace Go.Proofs.YtnlncfjibbdimaaDoor
open Go.RowKit
set_option linter.unusedSimpArgs false
set_option linter.unusedVariables false
theorem conv_bytes {W : World} {lo hi : Nat} {A : Option Addr} {c : Nat} {xs : List Nat} (h256 : ∀ x ∈ xs, x < 256) (h : Rd W lo hi 1 A xs.length (u8s xs)) (hA : A = none → c = 0) :
    (convert 84 9 (.slice A xs.length c)).run Tryd.prog W = .ok (.string (textOf xs)) W := by
  have hb := bytesN_textOf h256
  have hs : (textOf xs).size = xs.length := by rw [← bytesN_length, hb]
  have := conv_text (W := W) (lo := lo) (hi := hi) (A := A) (c := c) (textOf xs) (by rw [hs, hb]; exact h) hA
  rw [hs] at this
  exact this
theorem Rd.addr {w : World} {lo hi : Nat} {A : Option Addr} {bs : List Nat} (h : Rd w lo hi 1 A bs.length (u8s bs)) (h0 : 0 < bs.length) : ∃ b o, A = some ⟨b, o, none⟩ := by
  obtain ⟨ad, rfl, _, _, hcell⟩ := h.2 h0
  obtain ⟨b, o, sp⟩ := ad
  have hc0 := hcell 0 (.int .u8 (bs[0]'h0)) (by simp [u8s, List.getElem?_eq_getElem h0])
  have hsp : sp = none := by simpa [Addr.add] using World.cell?_spot hc0
  exact ⟨b, o, by rw [hsp]⟩
theorem Rd.at8 {w : World} {lo hi b o : Nat} {bs : List Nat} (h : Rd w lo hi 1 (some ⟨b, o, none⟩) bs.length (u8s bs)) {k x : Nat} (hx : bs[k]? = some x) : w.cell? ⟨b, o + k, none⟩ = some (.int .u8 x) := by
  have hk := (List.getElem?_eq_some_iff.1 hx).1
  obtain ⟨ad, he, _, _, hcell⟩ := h.2 (by omega)
  injection he with he
  subst he
  have hck := hcell k (.int .u8 x) (by simp [u8s, hx])
  rw [Addr.add_mid] at hck
  exact hck
theorem Rd.sub {w : World} {lo hi b o p : Nat} {bs xs : List Nat} (h : Rd w lo hi 1 (some ⟨b, o, none⟩) bs.length (u8s bs)) (hx : ∀ j x, xs[j]? = some x → bs[p + j]? = some x) : Rd w lo hi 1 (some ⟨b, o + p, none⟩) xs.length (u8s xs) := by
  refine ⟨by simp [u8s], fun h0 => ?_⟩
  have hp : 0 < bs.length := by
    have h1 := hx 0 _ (List.getElem?_eq_getElem h0)
    have h2 := (List.getElem?_eq_some_iff.1 h1).1
    omega
  obtain ⟨ad, he, h1, h2, hc⟩ := h.2 hp
  injection he with he
  subst he
  refine ⟨_, rfl, h1, h2, fun j u hu => ?_⟩
  simp only [u8s, List.getElem?_map] at hu
  cases hj : xs[j]? with
  | none => rw [hj] at hu; cases hu
  | some x =>
    rw [hj] at hu
    have e : Value.int .u8 (x : Int) = u := by simpa using hu
    subst e
    have := hc (p + j) (.int .u8 x) (by simp [u8s, hx j x hj])
    rw [Addr.add_mid] at this ⊢
    rw [Nat.add_assoc]
    exact this
theorem ownA8 {W : World} {lo c n : Nat} {A : Option Addr} {bs : List Nat} (h : OwnB W lo (.slice A n c) bs) : A = none → c = 0 := fun hA => by
  subst hA
  rcases h.2.2.2 with ⟨h1, _⟩ | ⟨_, _, _, h1, _⟩
  · injection h1
  · injection h1 with h1
    cases h1
end Go.Proofs.YtnlncfjibbdimaaDoor
namespace Go.Proofs.YtnlncfjibbdimaaDoor
open Go.RowKit
set_option linter.unusedSimpArgs false
set_option linter.unusedVariables false
/-- The document's reader at block g, over the row bs that lies below it, at place p. -/
def DRd (w : World) (hi g : Nat) (bs : List Nat) (A : Option Addr) (c p : Nat) : Prop := Blk w g 192 #[.slice A bs.length c, .int .i64 p] ∧ Rd w 0 hi 1 A bs.length (u8s bs) ∧ hi ≤ g ∧ p ≤ bs.length
section
variable {w w' : World} {hi g c p q : Nat} {bs : List Nat} {A : Option Addr}
theorem DRd.le (h : DRd w hi g bs A c p) : hi ≤ w.heap.size := Nat.le_trans h.2.2.1 (Nat.le_of_lt h.1.lt)
theorem DRd.below (h : DRd w hi g bs A c p) (b : Below w.heap.size w w') : DRd w' hi g bs A c p :=
  ⟨h.1.below b h.1.lt, h.2.1.fr (Fr.of_below b (fun _ => False)) h.le (fun _ _ _ h => h), h.2.2⟩
theorem DRd.drew (h : DRd w hi g bs A c p) : DRd w.drew hi g bs A c p := h.below ((Below.refl w.heap.size w).drew)
theorem DRd.moved (h : DRd w hi g bs A c p) (hq : q ≤ bs.length) : DRd (w.setCell ⟨g, 1, none⟩ (.int .i64 q)) hi g bs A c q :=
  ⟨h.1.set_ 1 _, h.2.1.fr (((Fr.refl w.heap.size (fun k => k = g) w).setCell (p := ⟨g, 1, none⟩) (.inl rfl) _)) h.le (fun k _ hk he => by have := h.2.2.1; omega), h.2.2.1, hq⟩
end
/-- A list of bytes off the front. -/
def pBytes (most : Nat) (R : List Nat) : Option (List Nat × List Nat) :=
  match dec R with
  | some (n, r) => if n ≤ most ∧ n ≤ r.length then some (r.take n, r.drop n) else none
  | none => none
end Go.Proofs.YtnlncfjibbdimaaDoor
namespace Go.Proofs.YtnlncfjibbdimaaDoor
open Go.RowKit
set_option linter.unusedSimpArgs false
set_option linter.unusedVariables false
theorem ownsRow_base {w : World} {base base' e size n : Nat} {v : Value} {xs : List Value} (h : w.ownsRow base e size v n xs) (hb : base' ≤ base) : w.ownsRow base' e size v n xs :=
  ⟨h.1, h.2.imp id (fun ⟨g, cap, cur, e1, e2, r⟩ => ⟨g, cap, cur, e1, Nat.le_trans hb e2, r⟩)⟩
end Go.Proofs.YtnlncfjibbdimaaDoor
namespace Go.Proofs.YtnlncfjibbdimaaDoor
open Go.RowKit
set_option linter.unusedSimpArgs false
set_option linter.unusedVariables false
end Go.Proofs.YtnlncfjibbdimaaDoor
namespace Go.Proofs.YtnlncfjibbdimaaDoor
open Go.RowKit
set_option linter.unusedSimpArgs false
set_option linter.unusedVariables false
theorem pNums_cons {n : Nat} {R R1 R2 : List Nat} {a : Nat} {ys : List Int} (h1 : pNum R = some (a, R1)) (h2 : pNums n R1 = some (ys, R2)) : pNums (n + 1) R = some ((a : Int) :: ys, R2) := by
  rw [pNums, h1]
  simp only [Option.bind_some, h2]
theorem pBytes_inv {most : Nat} {R r xs : List Nat} (h : pBytes most R = some (xs, r)) : ∃ n r', dec R = some (n, r') ∧ n ≤ most ∧ n ≤ r'.length ∧ xs = r'.take n ∧ r = r'.drop n := by
  unfold pBytes at h
  cases hd : dec R with
  | none => rw [hd] at h; cases h
  | some y =>
    obtain ⟨m, r'⟩ := y
    rw [hd] at h
    simp only at h
    split at h
    · rename_i hm
      injection h with h
      injection h with h1 h2
      exact ⟨m, r', rfl, hm.1, hm.2, h1.symm, h2.symm⟩
    · cases h
end Go.Proofs.YtnlncfjibbdimaaDoor
