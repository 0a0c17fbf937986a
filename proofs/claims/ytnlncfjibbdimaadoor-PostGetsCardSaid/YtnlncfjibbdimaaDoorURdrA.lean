/-
  A number read from bytes; a row of bytes of the call's own; the walks of wire.Reader's number, Num, Bytes, Text and of the command reader's num, text, id.
  The command reader's contracts by what is left to be read; append of one number.
-/
import Derived.Test.YtnlncfjibbdimaaDoorUSameL
import Derived.Deep.RegionHeld3
import Derived.Laws.IdiomStrings
namespace Go.Proofs.YtnlncfjibbdimaaDoor
open Go.RowKit
set_option linter.unusedSimpArgs false
set_option linter.unusedVariables false
/-- From byte number i on, with what was read so far: the number and what stands behind it. -/
def decG : Nat → Nat → List Nat → Option (Nat × List Nat)
  | i, acc, l => if 9 ≤ i then none else
    match l with
    | [] => none
    | c :: r => if c < 128 then (if c ≠ 0 ∨ i = 0 then some (acc + c % 128 * 2 ^ (7 * i), r) else none) else decG (i + 1) (acc + c % 128 * 2 ^ (7 * i)) r
def dec (l : List Nat) : Option (Nat × List Nat) := decG 0 0 l
theorem decG_end {i acc : Nat} {l : List Nat} (h : 9 ≤ i) : decG i acc l = none := by unfold decG; rw [if_pos h]
theorem decG_nil {i acc : Nat} : decG i acc [] = none := by unfold decG; split <;> rfl
theorem decG_low {i acc c : Nat} {r : List Nat} (h : ¬ 9 ≤ i) (hc : c < 128) : decG i acc (c :: r) = if c ≠ 0 ∨ i = 0 then some (acc + c % 128 * 2 ^ (7 * i), r) else none := by
  rw [decG.eq_def]
  simp only [if_neg h, if_pos hc]
theorem decG_high {i acc c : Nat} {r : List Nat} (h : ¬ 9 ≤ i) (hc : ¬ c < 128) : decG i acc (c :: r) = decG (i + 1) (acc + c % 128 * 2 ^ (7 * i)) r := by
  rw [decG.eq_def]
  simp only [if_neg h, if_neg hc]
/-- What enc wrote is read back. -/
theorem decG_enc : ∀ (n i acc : Nat) (r : List Nat), i < 9 → n < 2 ^ (63 - 7 * i) → (n ≠ 0 ∨ i = 0) → decG i acc (enc n ++ r) = some (acc + n * 2 ^ (7 * i), r) := by
  intro n
  induction n using Nat.strongRecOn with
  | ind n ih =>
    intro i acc r hi hn h0
    by_cases hb : n < 128
    · rw [enc_small hb, List.singleton_append, decG_low (by omega) hb, if_pos h0, Nat.mod_eq_of_lt hb]
    · rw [enc_big hb, List.cons_append, decG_high (by omega) (by omega)]
      have hi8 : i < 8 := by
        rcases Nat.lt_or_ge i 8 with h | h
        · exact h
        · have : i = 8 := by omega
          subst this
          simp at hn
          omega
      have he : 2 ^ (63 - 7 * i) = 2 ^ (63 - 7 * (i + 1)) * 128 := by
        rw [show 63 - 7 * i = (63 - 7 * (i + 1)) + 7 by omega, Nat.pow_add]
      rw [ih (n / 128) (by omega) (i + 1) _ r (by omega) (by rw [he] at hn; exact Nat.div_lt_of_lt_mul (by omega)) (.inl (by omega))]
      have e2 : 2 ^ (7 * (i + 1)) = 128 * 2 ^ (7 * i) := by rw [show 7 * (i + 1) = 7 + 7 * i by omega, Nat.pow_add]
      rw [e2, show (n % 128 + 128) % 128 = n % 128 by omega]
      congr 1
      congr 1
      rw [← Nat.mul_assoc, Nat.add_assoc, ← Nat.add_mul]
      congr 2
      omega
theorem dec_enc (n : Nat) (r : List Nat) (h : n < 9223372036854775808) : dec (enc n ++ r) = some (n, r) := by
  have := decG_enc n 0 0 r (by omega) (by simpa using h) (.inr rfl)
  simpa [dec] using this
/-- One byte more, as the program joins it. -/
theorem wraps_i64 (n : Int) (h0 : 0 ≤ n) (h1 : n < 2 ^ 63) : IntKind.i64.wrap n = n := by rw [IntKind.wrap_i64]; omega
theorem and127_u8 (x : Nat) (h : x < 256) : bits .and .u8 (x : Int) 127 = ((x % 128 : Nat) : Int) := by
  have := bits_mask .u8 8 (by decide) wraps_u8 7 (by decide) (x : Int) (by omega) (by omega)
  simp at this
  rw [this]
  omega
theorem or_step (acc x k : Nat) (hk : k < 9) (hx : x < 256) (ha : acc < 2 ^ (7 * k)) :
    bits BinOp.or IntKind.i64 (acc : Int) (wrap64 (wrap64 (bits BinOp.and IntKind.u8 (x : Int) 127) * 2 ^ (7 * k))) = ((acc + x % 128 * 2 ^ (7 * k) : Nat) : Int) := by
  have hd : x % 128 < 128 := Nat.mod_lt _ (by omega)
  have hp : 2 ^ (7 * k) ≤ 2 ^ 56 := Nat.pow_le_pow_right (by omega) (by omega)
  have hm : x % 128 * 2 ^ (7 * k) ≤ 127 * 2 ^ (7 * k) := Nat.mul_le_mul_right _ (by omega)
  have hpos : 0 < 2 ^ (7 * k) := Nat.pow_pos (by omega)
  rw [and127_u8 x hx]
  have e1 : wrap64 ((x % 128 : Nat) : Int) = ((x % 128 : Nat) : Int) := by unfold wrap64; omega
  rw [e1]
  have e2 : ((x % 128 : Nat) : Int) * 2 ^ (7 * k) = ((x % 128 * 2 ^ (7 * k) : Nat) : Int) := by push_cast; rfl
  rw [e2]
  obtain ⟨m, hm'⟩ : ∃ m, m = x % 128 * 2 ^ (7 * k) := ⟨_, rfl⟩
  have hm63 : m < 2 ^ 63 := by rw [hm']; omega
  have e3 : wrap64 (m : Int) = m := by unfold wrap64; omega
  rw [← hm', e3]
  have hc : bits .or .i64 (acc : Int) (m : Int) = bits .or .i64 (m : Int) (acc : Int) := by simp only [bits, BitVec.or_comm]
  have hdvd : (m : Int) % ((2 ^ (7 * k) : Nat) : Int) = 0 := by
    rw [hm', ← Int.natCast_emod, Nat.mul_mod_left]
    rfl
  rw [hc, bits_join .i64 63 (by decide) wraps_i64 (7 * k) (m : Int) (acc : Int) (by omega) (by simpa using hdvd) (by omega) (by omega) (by exact_mod_cast ha) (by omega)]
  omega
end Go.Proofs.YtnlncfjibbdimaaDoor
namespace Go.Proofs.YtnlncfjibbdimaaDoor
open Go.RowKit
set_option linter.unusedSimpArgs false
set_option linter.unusedVariables false
/-- A row of bytes of the call's own, from block lo on. -/
def OwnB (w : World) (lo : Nat) (v : Value) (bs : List Nat) : Prop := (∃ A c, v = .slice A bs.length c) ∧ bs.length ≤ 140737488355328 ∧ w.ownsRow lo 5 1 v bs.length (u8s bs)
/-- k is a block of bytes. -/
def BS (w : World) (k : Nat) : Prop := ∃ cs, Blk w k 5 cs
/-- What lies below lo is as it was, and of the older blocks only blocks of bytes have turned. -/
def BFr (lo : Nat) (w w' : World) : Prop := Below lo w w' ∧ Fr w.heap.size (BS w) w w'
theorem BFr.refl (lo : Nat) (w : World) : BFr lo w w := ⟨Below.refl _ _, Fr.refl _ _ _⟩
theorem BFr.trans {lo : Nat} {a b c : World} (h : BFr lo a b) (k : BFr lo b c) : BFr lo a c := by
  refine ⟨h.1.trans k.1, h.2.step k.2 h.2.size (fun i hi ⟨cs, hcs⟩ => ?_)⟩
  by_cases hs : BS a i
  · exact hs
  · exact ⟨cs, by have := h.2.block i hi hs; unfold Blk at hcs ⊢; rw [← this]; exact hcs⟩
theorem BFr.of_below {lo : Nat} {w w' : World} (h : Below w.heap.size w w') (hlo : lo ≤ w.heap.size) : BFr lo w w' := ⟨h.mono hlo, Fr.of_below h _⟩
theorem BFr.size {lo : Nat} {w w' : World} (h : BFr lo w w') : w.heap.size ≤ w'.heap.size := h.2.size
theorem Blk.bfr {lo g : Nat} {w w' : World} {t : TypeId} {cs : Array Value} (h : Blk w g t cs) (f : BFr lo w w') (ht : t ≠ 5) : Blk w' g t cs :=
  h.fr f.2 h.lt (fun ⟨cs', h'⟩ => by
    unfold Blk at h h'
    rw [h] at h'
    injection h' with h'
    injection h' with _ h'
    exact ht h')
theorem OwnB.below {w w' : World} {lo B : Nat} {v : Value} {bs : List Nat} (h : OwnB w lo v bs) (f : Below B w w') (hB : w.heap.size ≤ B) : OwnB w' lo v bs :=
  ⟨h.1, h.2.1, (OwnRow.fr (lo := lo) (hi := w.heap.size) ⟨h.2.2, fun g hg => (h.2.2.lt g hg).2⟩ (Fr.of_below f (fun _ => False)) hB (fun _ _ _ h => h)).1⟩
theorem OwnB.nil_ (w : World) (lo : Nat) : OwnB w lo (.slice none 0 0) [] := ⟨⟨none, 0, rfl⟩, by simp, rfl, .inl ⟨rfl, rfl⟩⟩
theorem OwnB.rd {w : World} {lo : Nat} {v : Value} {bs : List Nat} (h : OwnB w lo v bs) : ∃ A c, v = .slice A bs.length c ∧ Rd w lo w.heap.size 1 A bs.length (u8s bs) := by
  obtain ⟨⟨A, c, rfl⟩, _, ho⟩ := h
  exact ⟨A, c, rfl, Rd.of_own ho (fun g hg => (ho.lt g hg).2)⟩
section
variable {ops : Array Oper} {rest : List Oper} {o : Oper} {a : Act} {W : World} {Q : Exit → Act → World → Prop}
/-- append(b, c...) for two rows of bytes, b of the call's own. -/
theorem law_append8 (s x : Operand) (lo lo1 hi1 : Nat) (v : Value) (bs cs : List Nat) (A : Option Addr) (c : Nat) (hgd : o.guard = none) (ho : o.op = .call { callee := .builtin .append, args := #[s, x], argTypes := #[84, 84] })
    (hs : a.eval s = v) (hO : OwnB W lo v bs) (hx : a.eval x = .slice A cs.length c) (hr : Rd W lo1 hi1 1 A cs.length (u8s cs)) (hl : bs.length + cs.length ≤ 140737488355328) (hlo : lo ≤ W.heap.size)
    (h : ∀ A' c' W', OwnB W' lo (.slice A' (bs.length + cs.length) c') (bs ++ cs) → BFr lo W W' → wpList Tryd.prog ops Q rest (a.put o.dst (.slice A' (bs.length + cs.length) c')) W') : wpList Tryd.prog ops Q (o :: rest) a W := by
  obtain ⟨i0, hi0, hz0, hz1, hz2⟩ := info_parts8 u8_info
  refine wpList_append_any _ hgd s x 84 ho lo 5 i0 _ 1 1 Tryd.underlying84 hi0 hz0 hz1 hz2 rfl (by decide) v bs.length (u8s bs) hs hO.2.2 lo1 hi1 A cs.length c (u8s cs) hx hr (u8s_oneCell cs) (by simp only [maxLen]; omega) (by omega) hlo ?_
  intro v1 w1 hown1 hg1 hat1
  have hO1 : OwnRow w1 lo w1.heap.size 5 1 v1 (bs.length + cs.length) (u8s bs ++ u8s cs) := ⟨hown1, fun g hg => (hown1.lt g hg).2⟩
  obtain ⟨A1, c1, hv1, _⟩ := hO1.form
  subst hv1
  have hlen : (bs ++ cs).length = bs.length + cs.length := List.length_append
  have e8 : u8s (bs ++ cs) = u8s bs ++ u8s cs := by simp [u8s]
  have hb : Below lo W w1 := (Below.refl lo W).grown hg1 hlo (fun k hk => (hO.2.2.lt k hk).1)
  have hf : Fr W.heap.size (BS W) W w1 := (Fr.refl W.heap.size (BS W) W).grown hg1 (Nat.le_refl _) (fun k hk => .inl (own_blk hO.2.2 hk))
  exact h A1 c1 w1 ⟨⟨A1, c1, by rw [hlen]⟩, by rw [hlen]; exact hl, by rw [hlen, e8]; exact hown1⟩ ⟨hb, hf⟩
end
end Go.Proofs.YtnlncfjibbdimaaDoor
namespace Go.Proofs.YtnlncfjibbdimaaDoor
open Go.RowKit
set_option linter.unusedSimpArgs false
set_option linter.unusedVariables false
/-- A reader at block g, over its own row of bytes, at a place. -/
def RdrAt (w : World) (lo g : Nat) (bs : List Nat) (p : Nat) : Prop := lo ≤ g ∧ bs.length ≤ 140737488355328 ∧ p ≤ bs.length ∧ (∀ x ∈ bs, x < 256) ∧ ∃ A c, Blk w g 230 #[.slice A bs.length c, .int .i64 p] ∧ w.ownsRow lo 5 1 (.slice A bs.length c) bs.length (u8s bs)
/-- What number answers. -/
def NumberPost (bs : List Nat) (p : Nat) (w : World) (e : Ending) (w' : World) : Prop :=
  w' = w ∧ ∃ (n q : Nat) (ok : Bool), e = .returned (.tuple #[.int .i64 n, .int .i64 q, .bool ok]) ∧
    (ok = true → dec (bs.drop p) = some (n, bs.drop q) ∧ q ≤ bs.length ∧ n ≤ 9223372036854775807) ∧ (ok = false → dec (bs.drop p) = none)
set_option maxRecDepth 100000 in
set_option maxHeartbeats 3200000 in
theorem number_any (w : World) (lo g p : Nat) (bs : List Nat) (h : RdrAt w lo g bs p) : Calls Tryd.prog 164 #[.pointer (some ⟨g, 0, none⟩), .int .i64 p] w (NumberPost bs p w) := by
  obtain ⟨hlo, hl, hp, h256, A, c, hB, hown⟩ := h
  have hn63 : bs.length ≤ 140737488355328 := hl
  obtain ⟨n, hn⟩ : ∃ n, n = bs.length := ⟨_, rfl⟩
  rw [← hn] at hB hown hp hn63
  have cB := hB.cell
  have hrd := Rd.of_own hown (fun g hg => (hown.lt g hg).2)
  have hcell : ∀ (k x : Nat), bs[k]? = some x → ∃ b o, A = some ⟨b, o, none⟩ ∧ w.cell? ⟨b, o + k, none⟩ = some (.int .u8 x) := fun k x hx => by
    have hk := (List.getElem?_eq_some_iff.1 hx).1
    obtain ⟨ad, rfl, _, _, hcell⟩ := hrd.2 (by omega)
    obtain ⟨b, o, sp⟩ := ad
    have hck := hcell k (.int .u8 x) (by simp [u8s, hx])
    have h0 : 0 < bs.length := by omega
    have hc0 := hcell 0 (.int .u8 (bs[0]'h0)) (by simp [u8s, List.getElem?_eq_getElem h0])
    have hsp : sp = none := by simpa [Addr.add] using World.cell?_spot hc0
    subst hsp
    rw [Addr.add_mid] at hck
    exact ⟨b, o, rfl, hck⟩
  have HC := Lib.hid hcell
  have H256 := Lib.hid h256
  have HN := Lib.hid hn
  clear hown hrd hcell h256 hn hl hlo
  go_enter Tryd.func164, Tryd.ntmps164
  go_wp2_with (fail)
  go_loop [7, 10] (fun v i => ∃ (k acc : Nat), k ≤ 9 ∧ p + k ≤ n ∧ i = .int .i64 k ∧ v = .int .i64 acc ∧ acc < 2 ^ (7 * k) ∧ dec (bs.drop p) = decG k acc (bs.drop (p + k))) (fun _ i => 9 - (intOf i).toNat)
  case atStart => exact ⟨0, 0, by omega, by omega, rfl, rfl, by omega, rfl⟩
  case round =>
    obtain ⟨k, acc, hk, hpk, rfl, rfl, hacc, hdec⟩ := hrel
    have HD := Lib.hid hdec
    clear hdec
    by_cases h9 : k < 9
    · by_cases hend : p + k < n
      · obtain ⟨x, hx⟩ : ∃ x, bs[p + k]? = some x := ⟨_, List.getElem?_eq_getElem (by rw [← HN.out]; exact hend)⟩
        have hx256 := H256.out x (List.mem_of_getElem? hx)
        obtain ⟨b, o, rfl, hck⟩ := HC.out _ _ hx
        have hdrop : bs.drop (p + k) = x :: bs.drop (p + k + 1) := by
          obtain ⟨h1, h2⟩ := List.getElem?_eq_some_iff.1 hx
          rw [List.drop_eq_getElem_cons h1, h2]
        obtain ⟨m, hm⟩ : ∃ m, m = acc + x % 128 * 2 ^ (7 * k) := ⟨_, rfl⟩
        have hor := or_step acc x k h9 hx256 hacc
        rw [← hm] at hor
        have hor0 := or_step acc 0 k h9 (by omega) hacc
        have hm2 : m < 2 ^ (7 * (k + 1)) := by
          have h1 : x % 128 ≤ 127 := by omega
          have h2 : x % 128 * 2 ^ (7 * k) ≤ 127 * 2 ^ (7 * k) := Nat.mul_le_mul_right _ h1
          have h3 : 2 ^ (7 * (k + 1)) = 128 * 2 ^ (7 * k) := by rw [show 7 * (k + 1) = 7 + 7 * k by omega, Nat.pow_add]
          omega
        have hm63 : m ≤ 9223372036854775807 := by
          have : 2 ^ (7 * (k + 1)) ≤ 2 ^ 63 := Nat.pow_le_pow_right (by omega) (by omega)
          omega
        have ha63 : acc ≤ 9223372036854775807 := by omega
        simp only [Nat.zero_mod, Nat.zero_mul, Nat.add_zero, Int.natCast_zero] at hor0
        have HM := Lib.hid (And.intro hm (And.intro hm2 (And.intro hm63 (And.intro hdrop hacc))))
        clear hx hdrop hm hm2 hm63 hacc
        by_cases hlow : (x : Int) < 128
        · by_cases hz : (x : Int) = 0
          · go_wp2_with (fail)
            exact bodyPost_ret (v := .tuple #[.int .i64 acc, .int .i64 ((p : Int) + k + 1), .bool ((k : Int) == 0)]) (by simp [results, Tryd.results164, go_sem]) rfl
              ⟨rfl, acc, p + k + 1, ((k : Int) == 0), by simp, fun h => by
                have h0 : k = 0 := by simpa using h
                have hx0 : x = 0 := by omega
                rw [HD.out, HM.out.2.2.2.1, decG_low (by omega) (by omega), if_pos (.inr h0), hx0]
                exact ⟨by simp, by have := HN.out; omega, ha63⟩, fun h => by
                have h0 : ¬ k = 0 := by simpa using h
                have hx0 : x = 0 := by omega
                rw [HD.out, HM.out.2.2.2.1, decG_low (by omega) (by omega), if_neg (by omega)]⟩
          · go_wp2_with (fail)
            exact bodyPost_ret (v := .tuple #[.int .i64 m, .int .i64 ((p : Int) + k + 1), .bool true]) (by simp [results, Tryd.results164, go_sem]) rfl
              ⟨rfl, m, p + k + 1, true, by simp, fun h => by
                rw [HD.out, HM.out.2.2.2.1, decG_low (by omega) (by omega), if_pos (.inl (by omega)), ← HM.out.1]
                exact ⟨rfl, by have := HN.out; omega, HM.out.2.2.1⟩, fun h => by cases h⟩
        · go_wp2_with (fail)
          go_round
          case rel => exact ⟨k + 1, m, by omega, by omega, by go_num, rfl, HM.out.2.1, by rw [HD.out, HM.out.2.2.2.1, decG_high (by omega) (by omega), ← HM.out.1]; rfl⟩
          case measure => simp [intOf]; omega
      · have hnil : bs.drop (p + k) = [] := List.drop_eq_nil_of_le (by have := HN.out; omega)
        have HE := Lib.hid hnil
        clear hnil
        go_wp2_with (fail)
        exact bodyPost_ret (v := .tuple #[.int .i64 0, .int .i64 0, .bool false]) (by simp [results, Tryd.results164, go_sem]) rfl
          ⟨rfl, 0, 0, false, by simp, fun h => (by cases h), fun _ => by rw [HD.out, HE.out, decG_nil]⟩
    · go_wp2_with (fail)
      exact bodyPost_ret (v := .tuple #[.int .i64 0, .int .i64 0, .bool false]) (by simp [results, Tryd.results164, go_sem]) rfl
        ⟨rfl, 0, 0, false, by simp, fun h => (by cases h), fun _ => by rw [HD.out, decG_end (by omega)]⟩
end Go.Proofs.YtnlncfjibbdimaaDoor
namespace Go.Proofs.YtnlncfjibbdimaaDoor
open Go.RowKit
set_option linter.unusedSimpArgs false
set_option linter.unusedVariables false
/-- A number was read. -/
def ReadNum (lo g : Nat) (bs : List Nat) (n : Nat) (rest : List Nat) (w : World) (e : Ending) (w' : World) : Prop :=
  ∃ q, rest = bs.drop q ∧ e = .returned (.tuple #[.int .i64 n, .nilIface]) ∧ RdrAt w' lo g bs q ∧ Fr w.heap.size (fun k => k = g) w w'
theorem RdrAt.moved {w : World} {lo g p q : Nat} {bs : List Nat} (h : RdrAt w lo g bs p) (hq : q ≤ bs.length) : RdrAt (w.setCell ⟨g, 1, none⟩ (.int .i64 q)) lo g bs q := by
  obtain ⟨h1, h2, h3, h4, A, c, hB, ho⟩ := h
  exact ⟨h1, h2, hq, h4, A, c, hB.set_ 1 _, ownsRow_far ho hB (by decide)⟩
theorem number_good (w : World) (lo g p n : Nat) (bs rest : List Nat) (h : RdrAt w lo g bs p) (hd : dec (bs.drop p) = some (n, rest)) :
    Calls Tryd.prog 164 #[.pointer (some ⟨g, 0, none⟩), .int .i64 p] w fun e w' => w = w' ∧ ∃ q : Nat, e = .returned (.tuple #[.int .i64 n, .int .i64 q, .bool true]) ∧ rest = bs.drop q ∧ q ≤ bs.length := by
  refine (number_any w lo g p bs h).mono ?_
  rintro e w1 ⟨hw, n', q, ok, rfl, h1, h2⟩
  cases ok with
  | false =>
    have := h2 rfl
    rw [hd] at this
    cases this
  | true =>
    obtain ⟨h3, hq, _⟩ := h1 rfl
    rw [hd] at h3
    injection h3 with h3
    injection h3 with h4 h5
    subst h4
    exact ⟨hw.symm, q, rfl, h5, hq⟩
theorem RdrAt.below {w w' : World} {lo g p B : Nat} {bs : List Nat} (h : RdrAt w lo g bs p) (f : Below B w w') (hB : w.heap.size ≤ B) : RdrAt w' lo g bs p := by
  obtain ⟨h1, h2, h3, h4, A, c, hb, ho⟩ := h
  exact ⟨h1, h2, h3, h4, A, c, hb.below f (Nat.lt_of_lt_of_le hb.lt hB), (OwnRow.fr (lo := lo) (hi := w.heap.size) ⟨ho, fun g hg => (ho.lt g hg).2⟩ (Fr.of_below f (fun _ => False)) hB (fun _ _ _ h => h)).1⟩
set_option maxRecDepth 100000 in
set_option maxHeartbeats 1600000 in
theorem rdnum_good (w : World) (lo g p most n : Nat) (bs rest : List Nat) (h : RdrAt w lo g bs p) (hd : dec (bs.drop p) = some (n, rest)) (hn : n ≤ most) (hm : most ≤ 140737488355328) :
    Calls Tryd.prog 136 #[.pointer (some ⟨g, 0, none⟩), .int .i64 most] w (ReadNum lo g bs n rest w) := by
  have k164 := number_good w lo g p n bs rest h hd
  obtain ⟨A, c, hB, ho⟩ := h.2.2.2.2
  have cB := hB.cell
  have fB := hB.frozen
  have hnm : ¬ (n : Int) > most := by omega
  have HD := Lib.hid (And.intro hd (And.intro h hB))
  have HK := Lib.hid k164
  clear hd h ho k164 hB
  go_enter Tryd.func136, Tryd.ntmps136
  go_upto_region 4 with (first | (go_at_call 164; refine HK.out.mono ?_; rintro e w1 ⟨rfl, q, rfl, h5, hq⟩; have HQ := Lib.hid (And.intro h5 hq); clear h5 hq) | fail)
  have hr := HD.out.2.1.moved HQ.out.2
  have hf : Fr w.heap.size (fun k => k = g) w (w.setCell ⟨g, 1, none⟩ (.int .i64 q)) := (Fr.refl w.heap.size (fun k => k = g) w).setCell (p := ⟨g, 1, none⟩) (.inl rfl) _
  have HR := Lib.hid (And.intro hr hf)
  clear hr hf
  go_wp2_with (fail)
  go_ret2
  exact ⟨q, HQ.out.1, rfl, HR.out.1, HR.out.2⟩
/-- Bytes were read. -/
def ReadBytes (lo g : Nat) (bs xs rest : List Nat) (w : World) (e : Ending) (w' : World) : Prop :=
  ∃ q A c, rest = bs.drop q ∧ e = .returned (.tuple #[.slice A xs.length c, .nilIface]) ∧ OwnB w' w.heap.size (.slice A xs.length c) xs ∧ RdrAt w' lo g bs q ∧ Fr w.heap.size (fun k => k = g) w w'
set_option maxRecDepth 100000 in
set_option maxHeartbeats 3200000 in
theorem rdbytes_good (w : World) (lo g p most : Nat) (bs xs rest : List Nat) (h : RdrAt w lo g bs p) (hd : dec (bs.drop p) = some (xs.length, xs ++ rest)) (hn : xs.length ≤ most) (hm : most ≤ 140737488355328) :
    Calls Tryd.prog 137 #[.pointer (some ⟨g, 0, none⟩), .int .i64 most] w (ReadBytes lo g bs xs rest w) := by
  have k164 := number_good w lo g p _ bs _ h hd
  obtain ⟨n, hxn⟩ : ∃ n, n = xs.length := ⟨_, rfl⟩
  rw [← hxn] at k164 hn
  obtain ⟨A, c, hB, ho⟩ := h.2.2.2.2
  have hbl := h.2.1
  have h63 : bs.length ≤ 140737488355328 := hbl
  have hxl : xs.length ≤ 140737488355328 := by omega
  have HL := Lib.hid hxl
  have h0 : 0 < bs.length := by
    rcases Nat.eq_zero_or_pos bs.length with h0 | h0
    · rw [List.eq_nil_of_length_eq_zero h0] at hd
      simp [dec, decG_nil] at hd
    · exact h0
  have h0' := h0
  rcases ho.2 with ⟨h1, h2⟩ | ⟨b, cap, cur, h1, hlo', hcur, hcap, hcm, hcs, hct⟩
  · omega
  injection h1 with h1 _ h3
  subst h1
  subst h3
  have cB := hB.cell
  have fB := hB.frozen
  have hnm : ¬ (n : Int) > most := by omega
  have HD := Lib.hid (And.intro hd (And.intro h (And.intro hB (And.intro ho hxn))))
  have HK := Lib.hid k164
  have hbc : bs.length ≤ c ∧ c ≤ maxLen := ⟨hcap, hcm⟩
  simp only [maxLen] at hbc
  clear hd h ho k164 hB hxn hlo' hcur hcap hcm hcs hct
  go_enter Tryd.func137, Tryd.ntmps137
  go_upto_region 2 with (first | (go_at_call 164; refine HK.out.mono ?_; rintro e w1 ⟨rfl, q, rfl, h5, hq⟩) | fail)
  have hqn : q + n ≤ bs.length := by
    have := congrArg List.length h5
    rw [List.length_append, List.length_drop, ← HD.out.2.2.2.2] at this
    omega
  have hnq : ¬ (n : Int) > (bs.length : Int) - (q : Int) := by omega
  have HQ := Lib.hid (And.intro h5 hq)
  clear h5 hq
  go_upto_region 5 with (fail)
  have hr := HD.out.2.1.moved (q := q + n) hqn
  have hf : Fr w.heap.size (fun k => k = g) w (w.setCell ⟨g, 1, none⟩ (.int .i64 (q + n : Nat))) := (Fr.refl w.heap.size (fun k => k = g) w).setCell (p := ⟨g, 1, none⟩) (.inl rfl) _
  have hB2 := HD.out.2.2.1.set_ 1 (.int .i64 (q + n : Nat))
  have ho2 := ownsRow_far (i := 1) (u := .int .i64 (q + n : Nat)) HD.out.2.2.2.1 HD.out.2.2.1 (by decide)
  refine wp_letter (fun W => RdrAt W lo g bs (q + n) ∧ Fr w.heap.size (fun k => k = g) w W ∧ Blk W g 230 #[.slice (some ⟨b, 0, none⟩) bs.length c, .int .i64 (q + n : Nat)] ∧ W.ownsRow lo 5 1 (.slice (some ⟨b, 0, none⟩) bs.length c) bs.length (u8s bs)) ⟨hr, hf, hB2, ho2⟩ ?_
  clear hr hf hB2 ho2
  obtain ⟨m, hm⟩ : ∃ m, m = q + n := ⟨_, rfl⟩
  rw [← hm]
  rintro W ⟨hr, hf, hB2, ho2⟩
  have hrd := (Rd.of_own ho2 (fun g hg => (ho2.lt g hg).2)).wider (Nat.zero_le _) (Nat.le_refl _)
  have hsub : c ≠ q ∨ xs = [] → Rd W.drew 0 W.drew.heap.size 1 (some ⟨b, q, none⟩) xs.length (u8s xs) := fun _ => by
    refine ⟨by simp [u8s], fun h0 => ⟨_, rfl, Nat.zero_le _, ?_, fun j u hu => ?_⟩⟩
    · obtain ⟨ad, he, h1, h2, _⟩ := hrd.2 h0'
      injection he with he
      subst he
      exact h2
    · obtain ⟨ad, he, _, _, hc⟩ := hrd.2 h0'
      injection he with he
      subst he
      have h5 := HD.out.1
      have := hc (q + j) u (by
        have hx := HQ.out.1
        have hj := (List.getElem?_eq_some_iff.1 hu).1
        simp only [u8s, List.length_map] at hj
        rw [← hu]
        simp only [u8s, List.getElem?_map]
        congr 1
        rw [← List.getElem?_drop, ← hx, List.getElem?_append_left hj])
      rw [Addr.add_mid] at this ⊢
      rw [Nat.zero_add] at this
      exact this
  have cB2 := hB2.cell
  have HR := Lib.hid (And.intro hr (And.intro hf hB2))
  have hqn1 : (0 : Int) ≤ (q : Int) := by omega
  have hqn2 : (q : Int) ≤ (m : Int) := by omega
  have hqn' : (m : Int) ≤ (c : Int) := by omega
  have hmq : m - q = n := by omega
  have HMQ := Lib.hid (And.intro hmq hm)
  clear cB fB hr hf hB2 ho2 hrd hm hmq
  have hfin : ∀ A2 c2 w2, OwnRow w2 W.drew.heap.size w2.heap.size 5 1 (.slice A2 xs.length c2) xs.length (u8s xs) ∧ Below W.drew.heap.size W.drew w2 → ReadBytes lo g bs xs rest w (.returned (.tuple #[.slice A2 xs.length c2, .nilIface])) w2 := fun A2 c2 w2 h => by
    have hxn := HD.out.2.2.2.2
    refine ⟨m, A2, c2, ?_, rfl, ⟨⟨A2, c2, rfl⟩, HL.out, (h.1.wider HR.out.2.1.size (Nat.le_refl _)).1⟩, HR.out.1.below (w := W) (B := W.heap.size) ((Below.refl W.heap.size W).drew.trans h.2) (Nat.le_refl _), HR.out.2.1.drew.trans ((Fr.of_below h.2 _).mono HR.out.2.1.size (fun _ _ h => h))⟩
    rw [HMQ.out.2, ← List.drop_drop, ← HQ.out.1, hxn, List.drop_left]
  have HE := Lib.hid hfin
  clear hfin
  by_cases hqc : c = q
  · have hx0 : xs = [] := by
      have := HD.out.2.2.2.2
      exact List.eq_nil_of_length_eq_zero (by omega)
    subst hx0
    obtain rfl : m = q := by omega
    have hs0 : Calls Tryd.prog 147 #[.slice (some ⟨b, 0, none⟩) 0 0] W.drew (Clone8Post W.drew []) := clone8 W.drew ⟨b, 0, none⟩ 0 [] (by simp) ⟨rfl, fun h => absurd h (by simp)⟩
    have HS := Lib.hid hs0
    clear hsub hs0
    go_region_held3 (fun w' => w'.cell? ⟨g, 0, none⟩ = some (.slice (some ⟨b, 0, none⟩) bs.length c) ∧ w'.cell? ⟨g, 1, none⟩ = some (.int .i64 m)) (go_keep)
      (first | (go_at_call 147; refine HS.out.mono ?_; rintro e w2 ⟨A2, c2, rfl, o2, b2⟩; have q2 := (HR.out.2.2.drew.below b2 HR.out.2.2.lt).cell; have HO2 := Lib.hid (And.intro o2 b2); clear o2 b2))
    go_wp2_with (fail)
    go_ret2
    exact HE.out A2 c2 w2 HO2.out
  · have hs0 : Calls Tryd.prog 147 #[.slice (some ⟨b, q, none⟩) (m - q) (c - q)] W.drew (Clone8Post W.drew xs) := by
      have := clone8 W.drew ⟨b, q, none⟩ (c - q) xs HL.out (hsub (.inl hqc))
      rw [← HD.out.2.2.2.2, ← HMQ.out.1] at this
      exact this
    have HS := Lib.hid hs0
    have hqc' : ¬ (c : Int) = q := by omega
    clear hsub hs0
    go_region_held3 (fun w' => w'.cell? ⟨g, 0, none⟩ = some (.slice (some ⟨b, 0, none⟩) bs.length c) ∧ w'.cell? ⟨g, 1, none⟩ = some (.int .i64 m)) (go_keep)
      (first | (go_at_call 147; refine HS.out.mono ?_; rintro e w2 ⟨A2, c2, rfl, o2, b2⟩; have q2 := (HR.out.2.2.drew.below b2 HR.out.2.2.lt).cell; have HO2 := Lib.hid (And.intro o2 b2); clear o2 b2))
    go_wp2_with (fail)
    go_ret2
    exact HE.out A2 c2 w2 HO2.out
end Go.Proofs.YtnlncfjibbdimaaDoor
namespace Go.Proofs.YtnlncfjibbdimaaDoor
open Go.RowKit
set_option linter.unusedSimpArgs false
set_option linter.unusedVariables false
theorem conv_text {W : World} {lo hi : Nat} {A : Option Addr} {c : Nat} (s : ByteArray) (h : Rd W lo hi 1 A s.size (u8s (bytesN s))) (hA : A = none → c = 0) : (convert 84 9 (.slice A s.size c)).run Tryd.prog W = .ok (.string s) W := by
  obtain ⟨⟨l⟩⟩ := s
  have hsz : ByteArray.size ⟨⟨l⟩⟩ = l.length := rfl
  rw [hsz] at h ⊢
  cases A with
  | none =>
    have hl : l = [] := by
      rcases Nat.eq_zero_or_pos l.length with h0 | h0
      · exact List.eq_nil_of_length_eq_zero h0
      · obtain ⟨ad, he, _⟩ := h.2 h0
        cases he
    subst hl
    simp only [List.length_nil]
    rw [hA rfl, Go.run_convert_bytes_string W 84 9 5 none 0 0 Tryd.underlying84 Tryd.underlying5 Tryd.underlying9]
    rfl
  | some ad =>
    exact run_convert_bytes_back W 84 9 5 ad c l Tryd.underlying84 Tryd.underlying5 Tryd.underlying9 (fun j hj => by
      obtain ⟨ad', he, _, _, hc⟩ := h.2 (by omega)
      injection he with he
      subst he
      exact hc j _ (by simp [u8s, bytesN, List.getElem?_eq_getElem hj]))
/-- A text was read. -/
def ReadText (lo g : Nat) (bs : List Nat) (s : ByteArray) (rest : List Nat) (w : World) (e : Ending) (w' : World) : Prop :=
  ∃ q, rest = bs.drop q ∧ e = .returned (.tuple #[.string s, .nilIface]) ∧ RdrAt w' lo g bs q ∧ Fr w.heap.size (fun k => k = g) w w'
set_option maxRecDepth 100000 in
set_option maxHeartbeats 1600000 in
theorem rdtext_good (w : World) (lo g p most : Nat) (bs rest : List Nat) (s : ByteArray) (h : RdrAt w lo g bs p) (hd : dec (bs.drop p) = some (s.size, bytesN s ++ rest)) (hn : s.size ≤ most) (hm : most ≤ 140737488355328) :
    Calls Tryd.prog 166 #[.pointer (some ⟨g, 0, none⟩), .int .i64 most] w (ReadText lo g bs s rest w) := by
  have k137 := rdbytes_good w lo g p most bs (bytesN s) rest h (by rw [bytesN_length]; exact hd) (by rw [bytesN_length]; exact hn) hm
  have HK := Lib.hid k137
  clear k137 hd h
  go_enter Tryd.func166, Tryd.ntmps166
  go_upto_region 2 with (first | (go_at_call 137; refine HK.out.mono ?_; rintro e w1 ⟨q, A, c, hr, rfl, ho, hR, hf⟩; have HQ := Lib.hid (And.intro hr (And.intro ho (And.intro hR hf))); clear hr ho hR hf) | fail)
  rw [bytesN_length]
  have hcv : (convert 84 9 (.slice A s.size c)).run Tryd.prog w1 = .ok (.string s) w1 := by
    have ho := HQ.out.2.1
    rw [bytesN_length] at ho
    have h3 := ho.2.2
    rw [bytesN_length] at h3
    exact conv_text (W := w1) s (Rd.of_own h3 (fun g hg => (h3.lt g hg).2)) (fun hA => by
      subst hA
      rcases h3.2 with ⟨h1, _⟩ | ⟨_, _, _, h1, _⟩
      · injection h1
      · injection h1 with h1
        cases h1)
  go_wp2_with (fail)
  go_ret2
  exact ⟨q, HQ.out.1, rfl, HQ.out.2.2.1, HQ.out.2.2.2⟩
/-! ### The command reader: a reader behind a pointer -/

/-- A number was read, or all the rest. -/
def GotNum (lo g : Nat) (bs : List Nat) (n : Nat) (rest : List Nat) (w : World) (e : Ending) (w' : World) : Prop :=
  ∃ q, rest = bs.drop q ∧ e = .returned (.int .i64 n) ∧ RdrAt w' lo g bs q ∧ Fr w.heap.size (fun k => k = g) w w'
theorem RdrAt.lt {w : World} {lo g p : Nat} {bs : List Nat} (h : RdrAt w lo g bs p) : g < w.heap.size := by
  obtain ⟨_, _, _, _, A, c, hb, _⟩ := h
  exact hb.lt
set_option maxRecDepth 100000 in
set_option maxHeartbeats 1600000 in
theorem rgnum_good (w : World) (lo g p n : Nat) (bs rest : List Nat) (h : RdrAt w lo g bs p) (hd : dec (bs.drop p) = some (n, rest)) (hn : n ≤ 1099511627776) :
    Calls Tryd.prog 148 #[.agg #[.pointer (some ⟨g, 0, none⟩)]] w (GotNum lo g bs n rest w) := by
  have k136 := rdnum_good (w.alloc (.cells #[.pointer (some ⟨g, 0, none⟩)] 187)) lo g p 1099511627776 n bs rest (h.below ((Below.refl w.heap.size w).alloc (Nat.le_refl _) _) (Nat.le_refl _)) hd hn (by omega)
  have HK := Lib.hid k136
  have hgl := h.lt
  clear k136 hd h
  go_enter Tryd.func148, Tryd.ntmps148
  go_wp2_with (first | (go_at_call 136; refine HK.out.mono ?_; rintro e w1 ⟨q, hr, rfl, hR, hf⟩; have HQ := Lib.hid (And.intro hr (And.intro hR hf)); clear hr hR hf) | fail)
  go_ret
  refine ⟨q, HQ.out.1, rfl, HQ.out.2.1, ?_⟩
  exact ((Fr.refl w.heap.size (fun k => k = g) w).alloc (Nat.le_refl _) _).trans (HQ.out.2.2.mono (by simp) (fun _ _ h => h))
/-- A text was read. -/
def GotText (lo g : Nat) (bs : List Nat) (s : ByteArray) (rest : List Nat) (w : World) (e : Ending) (w' : World) : Prop :=
  ∃ q, rest = bs.drop q ∧ e = .returned (.string s) ∧ RdrAt w' lo g bs q ∧ Fr w.heap.size (fun k => k = g) w w'
set_option maxRecDepth 100000 in
set_option maxHeartbeats 1600000 in
theorem rgtext_good (w : World) (lo g p : Nat) (bs rest : List Nat) (s : ByteArray) (h : RdrAt w lo g bs p) (hd : dec (bs.drop p) = some (s.size, bytesN s ++ rest)) (hn : s.size ≤ 200) :
    Calls Tryd.prog 150 #[.agg #[.pointer (some ⟨g, 0, none⟩)]] w (GotText lo g bs s rest w) := by
  have k166 := rdtext_good (w.alloc (.cells #[.pointer (some ⟨g, 0, none⟩)] 187)) lo g p 200 bs rest s (h.below ((Below.refl w.heap.size w).alloc (Nat.le_refl _) _) (Nat.le_refl _)) hd hn (by omega)
  have HK := Lib.hid k166
  have hgl := h.lt
  clear k166 hd h
  go_enter Tryd.func150, Tryd.ntmps150
  go_wp2_with (first | (go_at_call 166; refine HK.out.mono ?_; rintro e w1 ⟨q, hr, rfl, hR, hf⟩; have HQ := Lib.hid (And.intro hr (And.intro hR hf)); clear hr hR hf) | fail)
  go_ret
  refine ⟨q, HQ.out.1, rfl, HQ.out.2.1, ?_⟩
  exact ((Fr.refl w.heap.size (fun k => k = g) w).alloc (Nat.le_refl _) _).trans (HQ.out.2.2.mono (by simp) (fun _ _ h => h))
end Go.Proofs.YtnlncfjibbdimaaDoor
namespace Go.Proofs.YtnlncfjibbdimaaDoor
open Go.RowKit
set_option linter.unusedSimpArgs false
set_option linter.unusedVariables false
theorem RdrAt.far {w : World} {lo g p y : Nat} {bs : List Nat} {t : TypeId} {cs : Array Value} (h : RdrAt w lo g bs p) (hB : Blk w y t cs) (ht : t ≠ 5) (hy : g ≠ y) (i : Nat) (u : Value) : RdrAt (w.setCell ⟨y, i, none⟩ u) lo g bs p := by
  obtain ⟨h1, h2, h3, h4, A, c, hb, ho⟩ := h
  exact ⟨h1, h2, h3, h4, A, c, hb.far (p := ⟨y, i, none⟩) hy _, ownsRow_far ho hB ht⟩
theorem RdrAt.drew {w : World} {lo g p : Nat} {bs : List Nat} (h : RdrAt w lo g bs p) : RdrAt w.drew lo g bs p := h.below ((Below.refl w.heap.size w).drew) (Nat.le_refl _)
/-- What is no reader's block stays. -/
theorem Blk.keep {w w' : World} {g y : Nat} {t : TypeId} {cs : Array Value} (h : Blk w y t cs) (f : Fr w.heap.size (fun k => k = g) w w') (hy : y ≠ g) : Blk w' y t cs := h.fr f h.lt hy
theorem FrG.trans {w a b : World} {g : Nat} (h : Fr w.heap.size (fun k => k = g) w a) (k : Fr a.heap.size (fun k => k = g) a b) : Fr w.heap.size (fun k => k = g) w b := h.trans (k.mono h.size (fun _ _ h => h))
end Go.Proofs.YtnlncfjibbdimaaDoor

namespace Go.Proofs.YtnlncfjibbdimaaDoor
open Go.RowKit
set_option linter.unusedSimpArgs false
set_option linter.unusedVariables false
/-- A reader at block g that has R left to read. -/
def Rem (w : World) (lo g : Nat) (R : List Nat) : Prop := ∃ bs q, RdrAt w lo g bs q ∧ R = bs.drop q
theorem Rem.below {w w' : World} {lo g B : Nat} {R : List Nat} (h : Rem w lo g R) (f : Below B w w') (hB : w.heap.size ≤ B) : Rem w' lo g R := by
  obtain ⟨bs, q, h1, h2⟩ := h
  exact ⟨bs, q, h1.below f hB, h2⟩
theorem Rem.drew {w : World} {lo g : Nat} {R : List Nat} (h : Rem w lo g R) : Rem w.drew lo g R := h.below ((Below.refl w.heap.size w).drew) (Nat.le_refl _)
theorem Rem.alloc {w : World} {lo g : Nat} {R : List Nat} (h : Rem w lo g R) (o : Obj) : Rem (w.alloc o) lo g R := h.below ((Below.refl w.heap.size w).alloc (Nat.le_refl _) o) (Nat.le_refl _)
theorem Rem.far {w : World} {lo g y : Nat} {R : List Nat} {t : TypeId} {cs : Array Value} (h : Rem w lo g R) (hB : Blk w y t cs) (ht : t ≠ 5) (hy : g ≠ y) (i : Nat) (u : Value) : Rem (w.setCell ⟨y, i, none⟩ u) lo g R := by
  obtain ⟨bs, q, h1, h2⟩ := h
  exact ⟨bs, q, h1.far hB ht hy i u, h2⟩
theorem Rem.lt {w : World} {lo g : Nat} {R : List Nat} (h : Rem w lo g R) : lo ≤ g ∧ g < w.heap.size := by
  obtain ⟨bs, q, h1, h2⟩ := h
  exact ⟨h1.1, h1.lt⟩
/-- v was read, and R is left. -/
def Got (lo g : Nat) (v : Value) (R : List Nat) (w : World) (e : Ending) (w' : World) : Prop := e = .returned v ∧ Rem w' lo g R ∧ Fr w.heap.size (fun k => k = g) w w'
end Go.Proofs.YtnlncfjibbdimaaDoor
namespace Go.Proofs.YtnlncfjibbdimaaDoor
open Go.RowKit
set_option linter.unusedSimpArgs false
set_option linter.unusedVariables false
theorem Rem.frT {w w' : World} {lo g B : Nat} {R : List Nat} {S : Nat → Prop} (h : Rem w lo g R) (f : Fr B S w w') (hB : w.heap.size ≤ B) (hS : ∀ k, S k → ∃ cs, Blk w k 3 cs) : Rem w' lo g R := by
  have hno : ∀ (k : Nat) (t : TypeId) (cs : Array Value), Blk w k t cs → t ≠ 3 → ¬ S k := fun k t cs hb ht hs => by
    obtain ⟨cs', h'⟩ := hS k hs
    unfold Blk at hb h'
    rw [hb] at h'
    injection h' with h'
    injection h' with _ h'
    exact ht h'
  obtain ⟨bs, q, ⟨h1, h2, h3, h4, A, c, hb, ho⟩, h6⟩ := h
  refine ⟨bs, q, ⟨h1, h2, h3, h4, A, c, hb.fr f (Nat.lt_of_lt_of_le hb.lt hB) (hno _ _ _ hb (by decide)), ?_⟩, h6⟩
  refine ⟨ho.1, ?_⟩
  rcases ho.2 with h7 | ⟨k, cap, cur, he, hb', hh, hr⟩
  · exact .inl h7
  · have hk : Blk w k 5 cur := hh
    exact .inr ⟨k, cap, cur, he, hb', Blk.fr hk f (Nat.lt_of_lt_of_le hk.lt hB) (hno _ _ _ hk (by decide)), hr⟩
theorem app3 {o : Oper} {a : Act} {W : World} {K : Act → World → Prop} {Q : Exit → Act → World → Prop} (s x : Operand) (lo c n : Nat) (A : Option Addr) (xs : List Int) (v : Int) (hn : n = xs.length)
    (ho : o.op = .call { callee := .builtin .append, args := #[s, x], argTypes := #[40, 40] }) (hs : a.eval s = .slice A n c) (hO : OwnInts W lo W.heap.size (.slice A xs.length c) xs) (hlo : lo ≤ W.heap.size)
    (hx : a.eval x = .slice (some ⟨W.heap.size, 0, none⟩) 1 1) (hl : xs.length ≤ 1000)
    (h : ∀ A' c' W', OwnInts W' lo W'.heap.size (.slice A' (n + 1) c') (xs ++ [v]) → (∀ (y : Nat) (t : TypeId) (cs : Array Value), t ≠ 3 → Blk W y t cs → Blk W' y t cs) → (∀ (l g : Nat) (R : List Nat), Rem W l g R → Rem W' l g R) →
      (∀ (B : Nat) (S : Nat → Prop) (w0 : World), B ≤ lo → Fr B S w0 W → Fr B S w0 W') → K (a.put o.dst (.slice A' (n + 1) c')) W') : o.wp Tryd.prog a (W.alloc (.cells #[.int .i64 v] 3)) K Q := by
  subst hn
  obtain ⟨i0, hi0, hz0, hz1, hz2⟩ := info_parts int_info
  have hB0 : Below W.heap.size W (W.alloc (.cells #[.int .i64 v] 3)) := (Below.refl _ _).alloc (Nat.le_refl _) _
  have hO1 := hO.fr (Fr.of_below hB0 (fun _ => False)) (Nat.le_refl _) (fun _ _ _ h => h)
  have hrd : Rd (W.alloc (.cells #[.int .i64 v] 3)) W.heap.size (W.heap.size + 1) 1 (some ⟨W.heap.size, 0, none⟩) 1 (ints [v]) :=
    ⟨rfl, fun _ => ⟨_, rfl, Nat.le_refl _, Nat.lt_succ_self _, fun j u hu => by rw [Addr.add_mid, Nat.zero_add, (Blk.new W 3 _).cell j]; simpa [ints] using hu⟩⟩
  refine wp_append_any _ s x 40 ho lo 3 i0 _ 1 8 Tryd.underlying40 hi0 hz0 hz1 hz2 rfl (by decide) (.slice A xs.length c) xs.length (ints xs) hs hO1.1.1 W.heap.size (W.heap.size + 1) (some ⟨W.heap.size, 0, none⟩) 1 1 (ints [v]) hx hrd (ints_oneCell _) (by simp only [maxLen]; omega) (by omega) (by simp; omega) ?_
  intro v1 w1 hown1 hg1 hat1
  have hR : OwnRow w1 lo w1.heap.size 3 1 v1 (xs.length + 1) (ints xs ++ ints [v]) := ⟨hown1, fun g hg => (hown1.lt g hg).2⟩
  obtain ⟨A1, c1, hv1, _⟩ := hR.form
  subst hv1
  have hown := hO1.1.1
  have hf3 : Fr (W.alloc (.cells #[.int .i64 v] 3)).heap.size (fun k => ∃ cs, Blk (W.alloc (.cells #[.int .i64 v] 3)) k 3 cs) (W.alloc (.cells #[.int .i64 v] 3)) w1 := (Fr.refl _ _ _).grown hg1 (Nat.le_refl _) (fun k hk => .inl (own_blk hown hk))
  refine h A1 c1 w1 ⟨?_, by simp; omega⟩ (fun y t cs ht hb => (hb.alloc _).grown hg1 (own_ne_blk hown (hb.alloc _) ht)) (fun l g R hr => (hr.alloc _).frT hf3 (Nat.le_refl _) (fun _ h => h)) (fun B S w0 hB f => (f.alloc (Nat.le_trans hB hlo) _).grown hg1 (by simp; omega) (fun k hk => .inr (Nat.le_trans hB (hown.lt k hk).1)))
  have e1 : ints (xs ++ [v]) = ints xs ++ ints [v] := by simp [ints]
  have e2 : (xs ++ [v]).length = xs.length + 1 := by simp
  rw [e1, e2]
  exact hR
end Go.Proofs.YtnlncfjibbdimaaDoor
