/-
  The walks of Same and Begins: two ledgers compared.
  The walk of spoil: it writes over a ledger of the call's own.
  The walks of wire.Writer's Text of nothing, putId, NewWriter, Done.
  The walk of wire.Writer's Num, for every number that is not negative.
  The walks of wire.Writer's Text and of command.putId, in general.
  What Check's yes says of a command's numbers and texts; how long a number's bytes are.
  The walks of slices.Clone of bytes, Writer.Done, NewWriter, and command.Put of the example's command.
  The walk of command.Put of the example's command.
  The walk of command.Put, for every command.
-/
import Derived.Test.YtnlncfjibbdimaaDoorUSameC
import Derived.Test.YtnlncfjibbdimaaDoorULaws
import Derived.Lib.QuietBelow
import Derived.Laws.Bits128
import Derived.Lib.AppendStr
import Derived.Test.YtnlncfjibbdimaaDoorUCheck
import Derived.Test.YtnlncfjibbdimaaDoorULex
namespace Go.Proofs.YtnlncfjibbdimaaDoor
open Go.RowKit
set_option linter.unusedSimpArgs false
set_option linter.unusedVariables false
section
variable {P : Program} {a : Act} {d : Option Tmp} {tp : TypeId} {ps : String} {af : Array Edge} {gd : Option (Nat × Bool)} {C : World → Prop} {K : Act → Prop}
/-- In a region that only reads: a whole row is loaded. -/
theorem law_quiet_load (ty : TypeId) (x : Operand) (b o : Nat) (cs : List Value) (hx : a.eval x = .pointer (some ⟨b, o, none⟩)) (hS : ∀ w, C w → w.rangeAt b o cs)
    {ds : TypeDesc} (hu : P.underlying ty = some ds) (hd : ds.isRow = true) (hi : (P.info? ty).map (·.size) = some cs.length)
    (h : K (a.put d (.agg cs.toArray))) : Oper.quiet P { dst := d, op := .load ty x, type := tp, pos := ps, after := af, guard := none } a C K :=
  ⟨_, fun w hw' => by
    unfold Oper.quietAt execOp
    simp only [hx, Instr.loadAt, Instr.sureAddr, Sem.run_bind, Sem.run_pure, Result.andThen_ok, run_loadVar_mid w b o ty cs ds (hS w hw') hu hd hi]
    exact ⟨rfl, rfl⟩, h⟩
end
theorem tf_iff {p : Prop} : tf p = true ↔ p := ⟨fun h => Classical.byContradiction fun hn => (by rw [tf_false hn] at h; cases h), tf_true⟩
def SameOn {α : Type} (xs ys : List α) (k : Nat) : Prop := xs.take k = ys.take k
theorem SameOn.step {α : Type} {xs ys : List α} {k : Nat} {c : α} (h : SameOn xs ys k) (h1 : xs[k]? = some c) (h2 : ys[k]? = some c) : SameOn xs ys (k + 1) := by
  unfold SameOn at *
  rw [List.take_add_one, List.take_add_one, h, h1, h2]
theorem SameOn.all {α : Type} {xs ys : List α} (h : SameOn xs ys xs.length) (hl : xs.length = ys.length) : xs = ys := by
  unfold SameOn at h
  rw [List.take_length, hl, List.take_length] at h
  exact h
set_option maxHeartbeats 800000 in
theorem same_any (w : World) (lo1 hi1 lo2 hi2 : Nat) (va vb : Value) (l m : List Cmd) (ha : LedAt w lo1 hi1 va l) (hb : LedAt w lo2 hi2 vb m) (h1 : hi1 ≤ w.heap.size) (h2 : hi2 ≤ w.heap.size) :
    Calls Tryd.prog 59 #[va, vb] w (YesNo (tf (l = m)) w) := by
  obtain ⟨A, c, rfl, hl1, hm1, _⟩ := ha.form
  obtain ⟨B, d, rfl, hl2, hm2, _⟩ := hb.form
  obtain ⟨n, hn⟩ : ∃ n, n = l.length := ⟨_, rfl⟩
  obtain ⟨q, hq⟩ : ∃ q, q = m.length := ⟨_, rfl⟩
  rw [← hn] at ha hl1 ⊢
  rw [← hq] at hb hl2 ⊢
  have hn63 : n ≤ 9223372036854775807 := by simp only [maxLen] at hm1; omega
  have hq63 : q ≤ 9223372036854775807 := by simp only [maxLen] at hm2; omega
  have HN := Lib.hid hn
  have HM := Lib.hid hq
  clear hn hq hl1 hl2 hm1 hm2
  by_cases hnm : n = q
  · subst hnm
    have hne : ((n : Int) != (n : Int)) = false := by simp
    go_enter Tryd.func59, Tryd.ntmps59
    go_wp2
    go_loopw [13] (fun i wr => ∃ k : Nat, k ≤ n ∧ i = .int .i64 k ∧ SameOn l m k ∧ Below w.heap.size w wr) (fun i _ => n - (intOf i).toNat)
    case atStart => exact ⟨0, Nat.zero_le _, rfl, by simp [SameOn], Below.refl _ _⟩
    case round =>
      obtain ⟨k, hk, rfl, hs, hbel⟩ := hrel
      by_cases hlt : k < n
      · have hk1 : k < l.length := by rw [← HN.out]; exact hlt
        have hk2 : k < m.length := by rw [← HM.out]; exact hlt
        have hlk1 := List.getElem?_eq_getElem hk1
        have hlk2 := List.getElem?_eq_getElem hk2
        obtain ⟨b1, o1, p1, rfl, hlo1, hhi1, hr1, hp1⟩ := ha.range hlk1
        obtain ⟨b2, o2, p2, rfl, hlo2, hhi2, hr2, hp2⟩ := hb.range hlk2
        obtain ⟨x, hx⟩ : ∃ x, x = l[k] := ⟨_, rfl⟩
        obtain ⟨y, hy⟩ : ∃ y, y = m[k] := ⟨_, rfl⟩
        rw [← hx] at hr1 hp1 hlk1
        rw [← hy] at hr2 hp2 hlk2
        clear hx hy
        have HX := Lib.hid hlk1
        have HY := Lib.hid hlk2
        have kr1 : ∀ w', (∃ p : Regrown, w' = Go.Sort.grow (redrawn wr p.d) p.os) → w'.rangeAt b1 (o1 + k * 18) (x.cells p1) := fun w' ⟨p, hp⟩ => by
          subst hp; exact rangeAt_fr hr1 (Fr.of_below (hbel.trans ((below_regrown wr p.d p.os).mono hbel.size)) (fun _ => False)) (by omega) (fun h => h)
        have kr2 : ∀ w', (∃ p : Regrown, w' = Go.Sort.grow (redrawn wr p.d) p.os) → w'.rangeAt b2 (o2 + k * 18) (y.cells p2) := fun w' ⟨p, hp⟩ => by
          subst hp; exact rangeAt_fr hr2 (Fr.of_below (hbel.trans ((below_regrown wr p.d p.os).mono hbel.size)) (fun _ => False)) (by omega) (fun h => h)
        have kc : ∀ dd os, Calls Tryd.prog 45 #[.agg (x.cells p1).toArray, .agg (y.cells p2).toArray] (Go.Sort.grow (redrawn wr dd) os) (YesNo (tf (x = y)) (Go.Sort.grow (redrawn wr dd) os)) := fun dd os => by
          have hB := hbel.trans ((below_regrown wr dd os).mono hbel.size)
          have hsz := hB.size
          exact sameCommand_any _ lo1 hi1 lo2 hi2 p1 p2 x y (hp1.fr (Fr.of_below hB (fun _ => False)) h1 (fun _ _ _ h => h)) (hp2.fr (Fr.of_below hB (fun _ => False)) h2 (fun _ _ _ h => h)) (by omega) (by omega)
        obtain ⟨t, ht⟩ : ∃ t, t = tf (x = y) := ⟨_, rfl⟩
        rw [← ht] at kc
        have HT := Lib.hid ht
        clear ht hr1 hr2 hp1 hp2 ha hb hlk1 hlk2
        cases t with
        | true =>
          go_wp2_with (fail)
          refine wp_region_quiet_below (by kernel_rfl) (by kernel_rfl) ?_
          repeat (first
            | (go_big_quiet_want; (with_reducible refine law_quiet_load 81 (.tmp 18) b1 (o1 + k * 18) (x.cells p1) ?_ kr1 Tryd.underlying81 ?_ ?_ ?_); rfl; rfl; exact cmd_info; go_big_quiet_on; (conv => arg 6; simp [go_sem]))
            | (go_big_quiet_want; (with_reducible refine law_quiet_load 81 (.tmp 22) b2 (o2 + k * 18) (y.cells p2) ?_ kr2 Tryd.underlying81 ?_ ?_ ?_); rfl; rfl; exact cmd_info; go_big_quiet_on; (conv => arg 6; simp [go_sem]))
            | go_big_quiet_step (first | exact Calls.regrown_of (kc _ _)))
          refine wpQuiet_nil ?_
          intro _ hw'
          obtain ⟨⟨dq, osq⟩, hw''⟩ := hw'
          subst hw''
          have hB := hbel.trans ((below_regrown wr dq osq).mono hbel.size)
          go_wp2
          go_roundw
          case rel => exact ⟨k + 1, by omega, by go_num, hs.step HX.out (by have hxy := tf_iff.1 HT.out.symm; rw [hxy]; exact HY.out), hB⟩
          case measure => simp [intOf]; omega
        | false =>
          go_wp2_with (fail)
          refine wp_region_quiet_below (by kernel_rfl) (by kernel_rfl) ?_
          repeat (first
            | (go_big_quiet_want; (with_reducible refine law_quiet_load 81 (.tmp 18) b1 (o1 + k * 18) (x.cells p1) ?_ kr1 Tryd.underlying81 ?_ ?_ ?_); rfl; rfl; exact cmd_info; go_big_quiet_on; (conv => arg 6; simp [go_sem]))
            | (go_big_quiet_want; (with_reducible refine law_quiet_load 81 (.tmp 22) b2 (o2 + k * 18) (y.cells p2) ?_ kr2 Tryd.underlying81 ?_ ?_ ?_); rfl; rfl; exact cmd_info; go_big_quiet_on; (conv => arg 6; simp [go_sem]))
            | go_big_quiet_step (first | exact Calls.regrown_of (kc _ _)))
          refine wpQuiet_nil ?_
          intro _ hw'
          obtain ⟨⟨dq, osq⟩, hw''⟩ := hw'
          subst hw''
          have hB := hbel.trans ((below_regrown wr dq osq).mono hbel.size)
          go_wp2
          go_ret
          exact ⟨ret_bool (by symm; exact tf_false (fun h => by
            have h1 := HX.out
            have h2 := HY.out
            rw [h, h2] at h1
            have h3 := HT.out
            rw [tf_true (Option.some.inj h1).symm] at h3
            cases h3)), hB⟩
      · have hkn : k = n := by omega
        subst hkn
        go_wp2
        go_ret
        have h1 := HN.out
        exact ⟨ret_bool (by symm; exact tf_true (SameOn.all (by rw [← h1]; exact hs) (by rw [← h1]; exact HM.out))), hbel⟩
  · have hne : ((n : Int) != (q : Int)) = true := by simp; omega
    have HNM := Lib.hid hnm
    clear hnm
    go_enter Tryd.func59, Tryd.ntmps59
    go_wp2
    go_ret
    exact ⟨ret_bool (by symm; exact tf_false (fun h => HNM.out (by rw [HN.out, HM.out, h]))), Below.refl _ _⟩
theorem flatten_take (k : Nat) : ∀ (rows : List (List Value)), (∀ r ∈ rows, r.length = 18) → (rows.take k).flatten = rows.flatten.take (k * 18) := by
  induction k with
  | zero => intro rows _; simp
  | succ k ih =>
    intro rows h
    cases rows with
    | nil => simp
    | cons r rows =>
      simp only [List.take_succ_cons, List.flatten_cons]
      have hr := h r (by simp)
      rw [ih rows (fun r hr => h r (by simp [hr])), List.take_append, hr, show (k + 1) * 18 - 18 = k * 18 by omega, List.take_of_length_le (i := (k + 1) * 18) (l := r) (by omega)]
theorem LedAt.take {w : World} {lo hi : Nat} {A : Option Addr} {c : Nat} {l : List Cmd} (h : LedAt w lo hi (.slice A l.length c) l) {k : Nat} (hk : k ≤ l.length) : LedAt w lo hi (.slice A k c) (l.take k) := by
  obtain ⟨A', c', rows, h1, h2, h3, h4, h5, h6⟩ := h
  obtain ⟨rfl, _, rfl⟩ : A = A' ∧ l.length = l.length ∧ c = c' := by injection h1 with a b c; exact ⟨a, b, c⟩
  have hlen : (l.take k).length = k := by simp; omega
  refine ⟨A, c, rows.take k, by rw [hlen], by omega, h3, by omega, ⟨?_, ?_⟩, ?_, ?_⟩
  · rw [flatten_take _ _ h6.len18, List.length_take, h5.1]
    omega
  · intro hn
    rw [hlen] at hn
    obtain ⟨ad, e, q1, q2, q3⟩ := h5.2 (by omega)
    refine ⟨ad, e, q1, q2, fun j u hu => q3 j u ?_⟩
    rw [flatten_take _ _ h6.len18, List.getElem?_take] at hu
    split at hu
    · exact hu
    · cases hu
  · simp [h6.1]
  · intro i r cc e1 e2
    refine h6.2 i r cc ?_ ?_
    · rw [List.getElem?_take] at e1; split at e1
      · exact e1
      · cases e1
    · rw [List.getElem?_take] at e2; split at e2
      · exact e2
      · cases e2
end Go.Proofs.YtnlncfjibbdimaaDoor

namespace Go.Proofs.YtnlncfjibbdimaaDoor
open Go.RowKit
set_option linter.unusedSimpArgs false
set_option linter.unusedVariables false
theorem Blk.ne_type {w : World} {g h : Nat} {t u : TypeId} {a b : Array Value} (h1 : Blk w g t a) (h2 : Blk w h u b) (hne : t ≠ u) : g ≠ h := by
  rintro rfl
  unfold Blk at h1 h2
  rw [h1] at h2
  injection h2 with h2
  injection h2 with _ h2
  exact hne h2
end Go.Proofs.YtnlncfjibbdimaaDoor

namespace Go.Proofs.YtnlncfjibbdimaaDoor
open Go.RowKit
set_option linter.unusedSimpArgs false
set_option linter.unusedVariables false
theorem WAt.fr {w w' : World} {lo g : Nat} {bs : List Nat} {B : Nat} {S : Nat → Prop} (h : WAt w lo g bs) (f : Fr B S w w') (hB : w.heap.size ≤ B) (hS : ∀ k, lo ≤ k → k < w.heap.size → ¬ S k) : WAt w' lo g bs := by
  obtain ⟨h1, h2, A, c, h3, h4⟩ := h
  have hg := h3.lt
  exact ⟨h1, h2, A, c, h3.fr f (by omega) (hS g h1 hg), (OwnRow.fr (lo := lo) (hi := w.heap.size) ⟨h4, fun k hk => (h4.lt k hk).2⟩ f hB hS).1⟩
theorem WAt.below {w w' : World} {lo g : Nat} {bs : List Nat} {B : Nat} (h : WAt w lo g bs) (f : Below B w w') (hB : w.heap.size ≤ B) : WAt w' lo g bs := h.fr (Fr.of_below f (fun _ => False)) hB (fun _ _ _ h => h)
theorem WAt.open_ {w : World} {lo g : Nat} {bs : List Nat} (h : WAt w lo g bs) : ∃ A c, Blk w g 227 #[.slice A bs.length c, .bool false] ∧ w.ownsRow lo 5 1 (.slice A bs.length c) bs.length (u8s bs) ∧ bs.length ≤ c ∧ c ≤ maxLen ∧ (A = none → bs.length = 0) := by
  obtain ⟨_, _, A, c, h3, h4⟩ := h
  obtain ⟨A', c', hv, q1, q2, q3⟩ := OwnRow.form (w := w) (lo := lo) (hi := w.heap.size) ⟨h4, fun k hk => (h4.lt k hk).2⟩
  injection hv with e1 _ e2
  subst e1; subst e2
  exact ⟨A, c, h3, h4, q1, q2, fun h => (q3 h).1⟩
theorem NumW.trans {w w1 w2 : World} {lo g : Nat} {bs cs : List Nat} {e : Ending} (h : WAt w1 lo g bs ∧ Below lo w w1 ∧ Fr w.heap.size (WS w g) w w1) (k : NumW w1 lo g cs e w2) : NumW w lo g cs e w2 := by
  obtain ⟨_, b1, f1⟩ := h
  obtain ⟨he, h2, b2, f2⟩ := k
  refine ⟨he, h2, b1.trans b2, f1.step f2 f1.size (fun k hk hs => ?_)⟩
  rcases hs with rfl | ⟨cs, hcs⟩
  · exact .inl rfl
  · by_cases hkg : WS w g k
    · exact hkg
    · exact .inr ⟨cs, by have := f1.block k hk hkg; unfold Blk at hcs ⊢; rw [← this]; exact hcs⟩
end Go.Proofs.YtnlncfjibbdimaaDoor

namespace Go.Proofs.YtnlncfjibbdimaaDoor
open Go.RowKit
set_option linter.unusedSimpArgs false
set_option linter.unusedVariables false
/-- A number's bytes. -/
def enc (n : Nat) : List Nat := if h : n < 128 then [n] else (n % 128 + 128) :: enc (n / 128)
termination_by n
decreasing_by omega
theorem enc_small {n : Nat} (h : n < 128) : enc n = [n] := by rw [enc, dif_pos h]
theorem enc_big {n : Nat} (h : ¬ n < 128) : enc n = (n % 128 + 128) :: enc (n / 128) := by rw [enc, dif_neg h]
theorem enc_pos (n : Nat) : 1 ≤ (enc n).length := by rw [enc]; split <;> simp
set_option maxRecDepth 100000 in
set_option maxHeartbeats 3200000 in
theorem num_any8 (w : World) (lo g n : Nat) (bs : List Nat) (h : WAt w lo g bs) (hl : bs.length + (enc n).length ≤ 1099511627776) (hn : n ≤ 9223372036854775807) : Calls Tryd.prog 99 #[.pointer (some ⟨g, 0, none⟩), .int .i64 n] w (NumW w lo g (bs ++ enc n)) := by
  obtain ⟨i0, hi0, hz0, hz1, hz2⟩ := info_parts8 u8_info
  have hn0 : ¬ (n : Int) < 0 := by omega
  have H0 := Lib.hid h
  clear h
  go_enter Tryd.func99, Tryd.ntmps99
  go_wp2
  go_loopw [1] (fun v wr => ∃ (m : Nat) (bs' : List Nat), v = .int .i64 m ∧ m ≤ 9223372036854775807 ∧ bs' ++ enc m = bs ++ enc n ∧ WAt wr lo g bs' ∧ Below lo w wr ∧ Fr w.heap.size (WS w g) w wr) (fun v _ => (intOf v).toNat)
  case atStart => exact ⟨n, bs, rfl, hn, rfl, H0.out, Below.refl _ _, Fr.refl _ _ _⟩
  case round =>
    obtain ⟨m, bs', rfl, hm, hbs, hI⟩ := hrel
    have hlen : bs'.length + (enc m).length ≤ 1099511627776 := by
      have := congrArg List.length hbs
      simp only [List.length_append] at this
      omega
    have hep := enc_pos m
    have hlo := hI.1.1
    obtain ⟨A, c, hB, hown, hc1, hc2, hA⟩ := hI.1.open_
    obtain ⟨k, hk⟩ : ∃ k, k = bs'.length := ⟨_, rfl⟩
    rw [← hk] at hB hown hc1 hA
    have hkl : k < 1099511627776 := by omega
    have hg := hB.lt
    have cB := hB.cell
    have HBS := Lib.hid hbs
    have HI := Lib.hid hI
    have HL := Lib.hid hkl
    have HO := Lib.hid hlo
    have HB := Lib.hid hB
    have HO5 := Lib.hid hown
    have HK := Lib.hid hk
    clear hbs hI hlo hB hown hc1 hc2 hA hlen hep hkl hk
    by_cases hbig : (m : Int) > 127
    · obtain ⟨q, hq⟩ : ∃ q, q = m % 128 := ⟨_, rfl⟩
      obtain ⟨e, he⟩ : ∃ e, e = q + 128 := ⟨_, rfl⟩
      obtain ⟨d, hd⟩ : ∃ d, d = m / 128 := ⟨_, rfl⟩
      have hb1 : bits BinOp.and IntKind.i64 (m : Int) 127 = (q : Int) := by rw [i64_and127]; omega
      have hb2 : (q : Int) % 256 = q := by omega
      have hb3 : bits BinOp.or IntKind.u8 (q : Int) 128 = (e : Int) := by rw [u8_or128_right _ (by omega) (by omega)]; omega
      have hb4 : (m : Int) / 128 = (d : Int) := by omega
      have henc : enc m = e :: enc d := by rw [enc_big (by omega), he, hq, hd]
      have hdm : d < m := by omega
      have HE := Lib.hid henc
      clear hq he hd henc
      have hownW : (wr.alloc (.cells #[.int .u8 e] 5)).ownsRow lo 5 1 (.slice A k c) k (u8s bs') :=
        (OwnRow.fr (lo := lo) (hi := wr.heap.size) ⟨HO5.out, fun g hg => (HO5.out.lt g hg).2⟩ (Fr.of_below ((Below.refl wr.heap.size wr).alloc (Nat.le_refl _) _) (fun _ => False)) (Nat.le_refl _) (fun _ _ _ h => h)).1
      have hrd : Rd (wr.alloc (.cells #[.int .u8 e] 5)) 0 (wr.heap.size + 1) 1 (some ⟨wr.heap.size, 0, none⟩) 1 [.int .u8 e] :=
        ⟨rfl, fun _ => ⟨_, rfl, Nat.zero_le _, by simp, fun j u hu => by rw [Addr.add_mid, Nat.zero_add, (Blk.new wr 5 _).cell j]; simpa using hu⟩⟩
      have HW := Lib.hid (And.intro hownW hrd)
      clear hownW hrd
      go_wp2_with (at_builtin
                   refine wpList_append_any _ rfl (.tmp 15) (.tmp 20) 84 rfl lo 5 i0 _ 1 1 Tryd.underlying84 hi0 hz0 hz1 hz2 rfl (by decide) (.slice A k c) k (u8s bs') rfl HW.out.1
                     0 (wr.heap.size + 1) (some ⟨wr.heap.size, 0, none⟩) 1 1 [.int .u8 e] rfl HW.out.2 (by simp [Value.oneCell']) (by have := HL.out; simp only [maxLen]; omega) (by have := HL.out; omega) (by have := HO.out; simp; omega) ?_
                   intro v1 w1 hown1 hg1 hat1
                   have hO1 : OwnRow w1 lo w1.heap.size 5 1 v1 (k + 1) (u8s bs' ++ [.int .u8 e]) := ⟨hown1, fun g hg => (hown1.lt g hg).2⟩
                   have hB1 : Blk w1 g 227 #[.slice A k c, .bool false] := (HB.out.alloc (.cells #[.int .u8 e] 5)).grown hg1 (own_ne_blk HW.out.1 (HB.out.alloc _) (by decide))
                   have hb1 : Below lo wr w1 := ((Below.refl lo wr).alloc (by have := HO.out; omega) _).grown hg1 (by have := HO.out; simp; omega) (fun k hk => (HW.out.1.lt k hk).1)
                   obtain ⟨A1, c1, hv1, _⟩ := hO1.form
                   subst hv1
                   have cB1 := hB1.cell
                   have fB1 := hB1.frozen
                   have hfin : WAt (w1.setCell ⟨g, 0, none⟩ (.slice A1 (k + 1) c1)) lo g (bs' ++ [e]) := ⟨HO.out, by have := HL.out; have := HK.out; simp; omega, A1, c1, by have h := hB1.set_ 0 (.slice A1 (k + 1) c1); rw [HK.out] at h ⊢; simpa using h, by have h := ownsRow_far (i := 0) (u := .slice A1 (k + 1) c1) hown1 hB1 (by decide); rw [HK.out] at h ⊢; simpa [u8s] using h⟩
                   have hbf : Below lo wr (w1.setCell ⟨g, 0, none⟩ (.slice A1 (k + 1) c1)) := hb1.setCell (p := ⟨g, 0, none⟩) HO.out _
                   have hfr : Fr wr.heap.size (WS wr g) wr (w1.setCell ⟨g, 0, none⟩ (.slice A1 (k + 1) c1)) :=
                     (((Fr.refl wr.heap.size (WS wr g) wr).alloc (Nat.le_refl _) (.cells #[.int .u8 e] 5)).grown hg1 (by simp) (fun k hk => by
                       have hk' := own_blk HO5.out hk
                       exact .inl (.inr hk'))).setCell (p := ⟨g, 0, none⟩) (.inl (.inl rfl)) _
                   have HF := Lib.hid (NumW.trans (e := .returned (.tuple #[])) HI.out ⟨rfl, hfin, hbf, hfr⟩).2
                   clear hfr hfin hbf hO1 hB1 hb1 hown1 hg1 hat1)
      go_roundw
      case rel => exact ⟨d, bs' ++ [e], by go_num, by omega, by rw [← HBS.out, HE.out]; simp, HF.out⟩
      case measure => simp [intOf]; omega
    · have hmod : (m : Int) % 256 = m := by omega
      have henc : enc m = [m] := enc_small (by omega)
      have HE := Lib.hid henc
      clear henc
      have hownW : (wr.alloc (.cells #[.int .u8 m] 5)).ownsRow lo 5 1 (.slice A k c) k (u8s bs') :=
        (OwnRow.fr (lo := lo) (hi := wr.heap.size) ⟨HO5.out, fun g hg => (HO5.out.lt g hg).2⟩ (Fr.of_below ((Below.refl wr.heap.size wr).alloc (Nat.le_refl _) _) (fun _ => False)) (Nat.le_refl _) (fun _ _ _ h => h)).1
      have hrd : Rd (wr.alloc (.cells #[.int .u8 m] 5)) 0 (wr.heap.size + 1) 1 (some ⟨wr.heap.size, 0, none⟩) 1 [.int .u8 m] :=
        ⟨rfl, fun _ => ⟨_, rfl, Nat.zero_le _, by simp, fun j u hu => by rw [Addr.add_mid, Nat.zero_add, (Blk.new wr 5 _).cell j]; simpa using hu⟩⟩
      have HW := Lib.hid (And.intro hownW hrd)
      clear hownW hrd
      go_wp2_with (at_builtin
                   refine wpList_append_any _ rfl (.tmp 30) (.tmp 33) 84 rfl lo 5 i0 _ 1 1 Tryd.underlying84 hi0 hz0 hz1 hz2 rfl (by decide) (.slice A k c) k (u8s bs') rfl HW.out.1
                     0 (wr.heap.size + 1) (some ⟨wr.heap.size, 0, none⟩) 1 1 [.int .u8 m] rfl HW.out.2 (by simp [Value.oneCell']) (by have := HL.out; simp only [maxLen]; omega) (by have := HL.out; omega) (by have := HO.out; simp; omega) ?_
                   intro v1 w1 hown1 hg1 hat1
                   have hO1 : OwnRow w1 lo w1.heap.size 5 1 v1 (k + 1) (u8s bs' ++ [.int .u8 m]) := ⟨hown1, fun g hg => (hown1.lt g hg).2⟩
                   have hB1 : Blk w1 g 227 #[.slice A k c, .bool false] := (HB.out.alloc (.cells #[.int .u8 m] 5)).grown hg1 (own_ne_blk HW.out.1 (HB.out.alloc _) (by decide))
                   have hb1 : Below lo wr w1 := ((Below.refl lo wr).alloc (by have := HO.out; omega) _).grown hg1 (by have := HO.out; simp; omega) (fun k hk => (HW.out.1.lt k hk).1)
                   obtain ⟨A1, c1, hv1, _⟩ := hO1.form
                   subst hv1
                   have cB1 := hB1.cell
                   have fB1 := hB1.frozen
                   have hfin : WAt (w1.setCell ⟨g, 0, none⟩ (.slice A1 (k + 1) c1)) lo g (bs' ++ [m]) := ⟨HO.out, by have := HL.out; have := HK.out; simp; omega, A1, c1, by have h := hB1.set_ 0 (.slice A1 (k + 1) c1); rw [HK.out] at h ⊢; simpa using h, by have h := ownsRow_far (i := 0) (u := .slice A1 (k + 1) c1) hown1 hB1 (by decide); rw [HK.out] at h ⊢; simpa [u8s] using h⟩
                   have hbf : Below lo wr (w1.setCell ⟨g, 0, none⟩ (.slice A1 (k + 1) c1)) := hb1.setCell (p := ⟨g, 0, none⟩) HO.out _
                   have hfr : Fr wr.heap.size (WS wr g) wr (w1.setCell ⟨g, 0, none⟩ (.slice A1 (k + 1) c1)) :=
                     (((Fr.refl wr.heap.size (WS wr g) wr).alloc (Nat.le_refl _) (.cells #[.int .u8 m] 5)).grown hg1 (by simp) (fun k hk => by
                       have hk' := own_blk HO5.out hk
                       exact .inl (.inr hk'))).setCell (p := ⟨g, 0, none⟩) (.inl (.inl rfl)) _
                   have HF := Lib.hid (NumW.trans (e := .returned (.tuple #[])) HI.out ⟨rfl, hfin, hbf, hfr⟩).2
                   clear hfr hfin hbf hO1 hB1 hb1 hown1 hg1 hat1)
      go_end0
      have hf := HF.out
      rw [← HE.out, HBS.out] at hf
      exact ⟨rfl, hf⟩
end Go.Proofs.YtnlncfjibbdimaaDoor

namespace Go.Proofs.YtnlncfjibbdimaaDoor
open Go.RowKit
set_option linter.unusedSimpArgs false
set_option linter.unusedVariables false
def bytesN (s : ByteArray) : List Nat := s.data.toList.map (·.toNat)
theorem bytesN_length (s : ByteArray) : (bytesN s).length = s.size := by simp [bytesN]
theorem u8s_bytesN (s : ByteArray) : Lib.strCells s = u8s (bytesN s) := by
  simp only [Lib.strCells, u8s, bytesN, List.map_map]
  rfl
set_option maxRecDepth 100000 in
set_option maxHeartbeats 1600000 in
theorem text_any8 (w : World) (lo g : Nat) (s : ByteArray) (bs : List Nat) (h : WAt w lo g bs) (hl : bs.length + (enc s.size).length + s.size ≤ 1099511627776) :
    Calls Tryd.prog 101 #[.pointer (some ⟨g, 0, none⟩), .string s] w (NumW w lo g (bs ++ enc s.size ++ bytesN s)) := by
  obtain ⟨i0, hi0, hz0, hz1, hz2⟩ := info_parts8 u8_info
  have hs63 : s.size ≤ 9223372036854775807 := by omega
  have hnum := num_any8 w lo g s.size bs h (by omega) hs63
  have HLL := Lib.hid hl
  clear hl h
  go_enter Tryd.func101, Tryd.ntmps101
  go_wp2_with (first
               | (at_builtin
                  refine Lib.wpList_append_own_string _ rfl (.tmp 12) (.tmp 13) 84 9 rfl lo 5 i0 Tryd.underlying84 Tryd.underlying9 hi0 hz0 hz1 hz2 (.slice A k c) k (u8s (bs ++ enc s.size)) rfl HO5.out s rfl (by have hk1 := HK.out; have := HLL.out; rw [List.length_append] at hk1; simp only [maxLen]; omega) (by have hk1 := HK.out; have := HLL.out; rw [List.length_append] at hk1; omega) (by have := HO.out; have := HB.out.lt; omega) ?_
                  intro v2 w2 hown2 hg2 hat2
                  have hO2 : OwnRow w2 lo w2.heap.size 5 1 v2 (k + s.size) (u8s (bs ++ enc s.size) ++ Lib.strCells s) := ⟨hown2, fun g hg => (hown2.lt g hg).2⟩
                  have hB2 : Blk w2 g 227 #[.slice A k c, .bool false] := HB.out.grown hg2 (own_ne_blk HO5.out HB.out (by decide))
                  have hb2 : Below lo w1 w2 := (Below.refl lo w1).grown hg2 (by have := HO.out; have := HB.out.lt; omega) (fun k hk => (HO5.out.lt k hk).1)
                  obtain ⟨A2, c2, hv2, _⟩ := hO2.form
                  subst hv2
                  have cB2 := hB2.cell
                  have fB2 := hB2.frozen
                  have hlen : (bs ++ enc s.size ++ bytesN s).length = k + s.size := by rw [List.length_append, bytesN_length, ← HK.out]
                  have hfin : WAt (w2.setCell ⟨g, 0, none⟩ (.slice A2 (k + s.size) c2)) lo g (bs ++ enc s.size ++ bytesN s) := ⟨HO.out, by rw [hlen]; have hk1 := HK.out; have := HLL.out; rw [List.length_append] at hk1; omega, A2, c2, by rw [hlen]; simpa using hB2.set_ 0 (.slice A2 (k + s.size) c2), by
                    have h := ownsRow_far (i := 0) (u := .slice A2 (k + s.size) c2) hown2 hB2 (by decide)
                    rw [u8s_bytesN] at h
                    rw [hlen]
                    simpa [u8s] using h⟩
                  have hbf : Below lo w1 (w2.setCell ⟨g, 0, none⟩ (.slice A2 (k + s.size) c2)) := hb2.setCell (p := ⟨g, 0, none⟩) HO.out _
                  have hfr : Fr w1.heap.size (WS w1 g) w1 (w2.setCell ⟨g, 0, none⟩ (.slice A2 (k + s.size) c2)) :=
                    ((Fr.refl w1.heap.size (WS w1 g) w1).grown hg2 (Nat.le_refl _) (fun k hk => by
                      have hk' := own_blk HO5.out hk
                      exact .inl (.inr hk'))).setCell (p := ⟨g, 0, none⟩) (.inl (.inl rfl)) _
                  have HF := Lib.hid (NumW.trans (e := .returned (.tuple #[])) HN.out ⟨rfl, hfin, hbf, hfr⟩)
                  clear hfr hfin hbf hO2 hB2 hb2 hown2 hg2 hat2 hlen)
               | (go_at_call 99
                  refine hnum.mono ?_
                  rintro e w1 ⟨rfl, h1, b1, f1⟩
                  have hlo := h1.1
                  have HN := Lib.hid (And.intro h1 (And.intro b1 f1))
                  obtain ⟨A, c, hB, hown, hc1, hc2, hA⟩ := h1.open_
                  obtain ⟨k, hk⟩ : ∃ k, k = (bs ++ enc s.size).length := ⟨_, rfl⟩
                  rw [← hk] at hB hown hc1 hA
                  have hg := hB.lt
                  have cB := hB.cell
                  have HO := Lib.hid hlo
                  have HB := Lib.hid hB
                  have HO5 := Lib.hid hown
                  have HK := Lib.hid hk
                  clear hB hown hc1 hc2 hA b1 f1 h1 hlo hk))
  go_end0
  exact HF.out
set_option maxHeartbeats 800000 in
theorem putId_any8 (w : World) (lo g a b c : Nat) (bs : List Nat) (h : WAt w lo g bs) (hl : bs.length + (enc a).length + (enc b).length + (enc c).length ≤ 1099511627776) (ha : a ≤ 9223372036854775807) (hb : b ≤ 9223372036854775807) (hc : c ≤ 9223372036854775807) :
    Calls Tryd.prog 100 #[.pointer (some ⟨g, 0, none⟩), .agg #[.int .i64 a, .int .i64 b, .int .i64 c]] w (NumW w lo g (bs ++ enc a ++ enc b ++ enc c)) := by
  have hlo := h.1
  have hgl : g < w.heap.size := by
    obtain ⟨_, _, _, _, hB, _⟩ := h
    exact hB.lt
  have hls : lo ≤ w.heap.size := by omega
  have hX : Blk (w.alloc (.cells #[.int .i64 a, .int .i64 b, .int .i64 c] 74)) w.heap.size 74 #[.int .i64 a, .int .i64 b, .int .i64 c] := Blk.new w 74 _
  have h1 := h.below ((Below.refl _ _).alloc (Nat.le_refl _) (.cells #[.int .i64 a, .int .i64 b, .int .i64 c] 74)) (Nat.le_refl _)
  obtain ⟨x, hx⟩ : ∃ x, x = w.heap.size := ⟨_, rfl⟩
  have hxg : x ≠ g := by omega
  have kept : ∀ (u v : World), Blk u x 74 #[.int .i64 a, .int .i64 b, .int .i64 c] → Fr u.heap.size (WS u g) u v → Blk v x 74 #[.int .i64 a, .int .i64 b, .int .i64 c] := fun u v hu f => hu.fr f hu.lt (fun hs => by
    rcases hs with hs | ⟨cs, hs⟩
    · exact hxg hs
    · exact hu.ne_type hs (by decide) rfl)
  have HK := Lib.hid kept
  clear kept
  go_enter Tryd.func100, Tryd.ntmps100
  go_upto_region 1 with (fail)
  refine wp_letter (fun W => WAt W lo g bs ∧ Below lo w W ∧ Fr w.heap.size (WS w g) w W ∧ Blk W w.heap.size 74 #[.int .i64 a, .int .i64 b, .int .i64 c]) ⟨h1, (Below.refl _ _).alloc hls _, (Fr.refl _ _ _).alloc (Nat.le_refl _) _, hX⟩ ?_
  rintro W ⟨hW, bW, fW, hXW⟩
  rw [← hx] at hXW ⊢
  clear hX h1 hx
  have cX := hXW.cell
  go_wp2_with (fail)
  refine (num_any8 W lo g a bs hW (by omega) ha).mono ?_
  rintro e w1 ⟨rfl, h1, b1, f1⟩
  have hX1 := HK.out _ _ hXW f1
  have N1 := NumW.trans (e := .returned (.tuple #[])) ⟨hW, bW, fW⟩ ⟨rfl, h1, b1, f1⟩
  clear cX b1 f1
  have cX := hX1.cell
  go_wp2_with (fail)
  refine (num_any8 w1 lo g b _ h1 (by simp only [List.length_append]; omega) hb).mono ?_
  rintro e w2 ⟨rfl, h2, b2, f2⟩
  have hX2 := HK.out _ _ hX1 f2
  have N2 := NumW.trans (e := .returned (.tuple #[])) N1.2 ⟨rfl, h2, b2, f2⟩
  clear cX b2 f2
  have cX := hX2.cell
  go_wp2_with (fail)
  refine (num_any8 w2 lo g c _ h2 (by simp only [List.length_append]; omega) hc).mono ?_
  rintro e w3 ⟨rfl, h3, b3, f3⟩
  have N3 := NumW.trans (e := .returned (.tuple #[])) N2.2 ⟨rfl, h3, b3, f3⟩
  go_wp2_with (fail)
  go_end0
  exact N3
end Go.Proofs.YtnlncfjibbdimaaDoor

namespace Go.Proofs.YtnlncfjibbdimaaDoor
open Go.RowKit
set_option linter.unusedSimpArgs false
set_option linter.unusedVariables false
theorem enc_len : ∀ (k n : Nat), n < 128 ^ (k + 1) → (enc n).length ≤ k + 1
  | 0, n, h => by
    have : n < 128 := by simpa using h
    rw [enc_small this]; simp
  | k + 1, n, h => by
    by_cases hn : n < 128
    · rw [enc_small hn]; simp
    · rw [enc_big hn, List.length_cons]
      have : n / 128 < 128 ^ (k + 1) := by
        rw [Nat.pow_succ] at h
        exact Nat.div_lt_of_lt_mul (by rw [Nat.mul_comm]; exact h)
      have := enc_len k (n / 128) this
      omega
theorem enc_len6 {n : Nat} (h : n ≤ 1099511627776) : (enc n).length ≤ 6 := enc_len 5 n (Nat.lt_of_le_of_lt h (by decide))
theorem eith_or {a b c : Bool} (h : eith a b c = true) : b = true ∨ c = true := by
  revert h; cases a <;> cases b <;> cases c <;> simp [eith]
theorem rises_rng : ∀ {l : List Int} {p : Int}, risesFrom p l = true → 0 ≤ p → (∀ x ∈ l, 1 ≤ x ∧ x ≤ 16) ∧ (l ≠ [] → (l.length : Int) ≤ 16 - p)
  | [], p, _, _ => ⟨by simp, fun h => absurd rfl h⟩
  | x :: r, p, h, hp => by
    simp only [risesFrom, Bool.and_eq_true, decide_eq_true_eq] at h
    obtain ⟨⟨h1, h2⟩, h3⟩ := h
    have ih := rises_rng h3 (by omega)
    refine ⟨?_, fun _ => ?_⟩
    · intro y hy
      rcases List.mem_cons.1 hy with rfl | hy
      · omega
      · exact ih.1 y hy
    · by_cases hr : r = []
      · subst hr; simp; omega
      · have := ih.2 hr
        simp only [List.length_cons]
        omega
def inG (n : Int) : Prop := 0 ≤ n ∧ n ≤ 1099511627776
theorem gid_rng {a b c : Int} (h : gid a b c = true) : inG a ∧ inG b ∧ inG c := by
  simp only [gid, tick, Bool.and_eq_true, decide_eq_true_eq] at h
  unfold inG
  omega
theorem eq3_rng {a b c : Int} (h : eq3 a b c 0 0 0 = true) : inG a ∧ inG b ∧ inG c := by
  simp only [eq3, Bool.and_eq_true, decide_eq_true_eq] at h
  unfold inG
  omega
structure Cmd.InG (c : Cmd) : Prop where
  kind : inG c.kind
  id : inG c.idn ∧ inG c.idb ∧ inG c.ids
  bucket : c.bucket.size ≤ 64
  key : c.key.size ≤ 200
  up : inG c.upn ∧ inG c.upb ∧ inG c.ups
  blob : inG c.pbn ∧ inG c.pbb ∧ inG c.pbs
  psize : inG c.psize
  etag : c.etag.size ≤ 64
  part : inG c.part
  parts : (∀ x ∈ c.parts, inG x) ∧ c.parts.length ≤ 16
  time : inG c.time
  days : inG c.days
theorem empty_size {s : ByteArray} (h : s.toList.isEmpty = true) : s.size = 0 := by
  rw [ByteArray.toList_eq] at h
  have : s.data.toList.length = 0 := by
    cases hl : s.data.toList with
    | nil => rfl
    | cons a l => rw [hl] at h; simp at h
  simpa using this
theorem chk_rng {c : Cmd} (h : chkB c = true) : c.InG := by
  unfold chkB at h
  simp only [Bool.and_eq_true] at h
  obtain ⟨⟨⟨⟨⟨⟨⟨⟨⟨h0, h1⟩, h2⟩, h3⟩, h4⟩, h5⟩, h6⟩, h7⟩, h8⟩, h9⟩ := h
  have k0 : 1 ≤ c.kind ∧ c.kind ≤ 11 := by simpa [kindOk] using h0
  have hpiece : (inG c.pbn ∧ inG c.pbb ∧ inG c.pbs) ∧ inG c.psize ∧ c.etag.size ≤ 64 := by
    rcases eith_or h5 with h | h
    · simp only [Bool.and_eq_true, pieceB, decide_eq_true_eq] at h
      obtain ⟨⟨⟨⟨a, b⟩, d⟩, _⟩, _⟩ := h
      exact ⟨gid_rng a, by unfold inG; omega, by omega⟩
    · simp only [eq5, Bool.and_eq_true, decide_eq_true_eq] at h
      obtain ⟨a, b, d⟩ := h
      refine ⟨eq3_rng a, by unfold inG; omega, ?_⟩
      have : c.etag.toList = (⟨#[]⟩ : ByteArray).toList := by simpa using d
      rw [ByteArray.toList_eq, ByteArray.toList_eq] at this
      have : c.etag.data.toList.length = 0 := by rw [this]; rfl
      have h2 : c.etag.size = 0 := by simpa using this
      omega
  refine ⟨by unfold inG; omega, gid_rng h1, ?_, ?_, ?_, hpiece.1, hpiece.2.1, hpiece.2.2, ?_, ?_, ?_, ?_⟩
  · rcases eith_or h2 with h | h
    · simp only [gbC, Bool.and_eq_true, decide_eq_true_eq] at h
      omega
    · have := empty_size h; omega
  · rcases eith_or h3 with h | h
    · simp only [gk, lenB, Bool.and_eq_true, decide_eq_true_eq] at h
      omega
    · have := empty_size h; omega
  · rcases eith_or h4 with h | h
    · exact gid_rng h
    · exact eq3_rng h
  · rcases eith_or h6 with h | h
    · simp only [Bool.and_eq_true, decide_eq_true_eq] at h
      unfold inG; omega
    · have : c.part = 0 := by simpa using h
      unfold inG; omega
  · rcases eith_or h7 with h | h
    · simp only [partsB, Bool.and_eq_true, decide_eq_true_eq] at h
      have := rises_rng h.1 (Int.le_refl 0)
      refine ⟨fun x hx => by have := this.1 x hx; unfold inG; omega, ?_⟩
      have h2 := this.2 (by intro e; rw [e] at h; simp at h)
      omega
    · have h0 : c.parts.length = 0 := by
        have := eq_of_beq h
        omega
      have : c.parts = [] := List.eq_nil_of_length_eq_zero h0
      rw [this]
      exact ⟨by simp, by simp⟩
  · rcases eith_or h8 with h | h
    · simp only [tick, decide_eq_true_eq] at h; exact h
    · have : c.time = 0 := by simpa using h
      unfold inG; omega
  · rcases eith_or h9 with h | h
    · simp only [tick, decide_eq_true_eq] at h; exact h
    · have : c.days = 0 := by simpa using h
      unfold inG; omega
end Go.Proofs.YtnlncfjibbdimaaDoor

namespace Go.Proofs.YtnlncfjibbdimaaDoor
open Go.RowKit
set_option linter.unusedSimpArgs false
set_option linter.unusedVariables false
theorem u8s_oneCell (xs : List Nat) : ∀ u ∈ u8s xs, u.oneCell' = true := by
  intro u hu
  simp only [u8s, List.mem_map] at hu
  obtain ⟨x, _, rfl⟩ := hu
  rfl
def Clone8Post (w : World) (bs : List Nat) (e : Ending) (w' : World) : Prop :=
  ∃ A c, e = .returned (.slice A bs.length c) ∧ OwnRow w' w.heap.size w'.heap.size 5 1 (.slice A bs.length c) bs.length (u8s bs) ∧ Below w.heap.size w w'
set_option maxHeartbeats 400000 in
theorem clone8 (w : World) (ad : Addr) (c : Nat) (bs : List Nat) (hl : bs.length ≤ 140737488355328) (hr : Rd w 0 w.heap.size 1 (some ad) bs.length (u8s bs)) :
    Calls Tryd.prog 147 #[.slice (some ad) bs.length c] w (Clone8Post w bs) := by
  obtain ⟨i0, hi0, hz0, hz1, hz2⟩ := info_parts8 u8_info
  have H := Lib.hid hl
  clear hl
  have hn := fun w => Lib.run_eql_slice_nil (P := Tryd.prog) w 84 5 (some ad) bs.length c 0 0 Tryd.underlying84
  go_enter Tryd.func147, Tryd.ntmps147
  go_wp2_with (at_builtin
               refine wpList_append_any _ rfl (.tmp 5) (.tmp 6) _ rfl w.heap.size 5 i0 _ 1 1 Tryd.underlying84 hi0 hz0 hz1 hz2 rfl (by omega) (.slice (some ⟨w.heap.size, 0, none⟩) 0 0) 0 [] rfl
                 ?_ 0 w.heap.size (some ad) bs.length c (u8s bs) rfl ?_ (u8s_oneCell _) ?_ ?_ (by simp) ?_
               rotate_right
               intro v1 w1 hown1 hg1 hat1)
  · have hb0 : Below w.heap.size w (w.alloc (.cells #[] 5)) := (Below.refl _ _).alloc (Nat.le_refl _) _
    have hO : OwnRow w1 w.heap.size w1.heap.size 5 1 v1 bs.length (u8s bs) := ⟨by simpa using hown1, fun g hg => (hown1.lt g hg).2⟩
    obtain ⟨A1, c1, rfl, _⟩ := hO.form
    go_ret
    exact ⟨A1, c1, rfl, hO, hb0.grown hg1 (by simp) (fun k hk => by simp [Value.ownBlock] at hk; omega)⟩
  · exact World.ownsRow_made w #[] 0 (Nat.le_refl _) (by simp [maxLen]) (by simp)
  · exact hr.fr (Fr.of_below ((Below.refl _ _).alloc (Nat.le_refl _) _) (fun _ => False)) (Nat.le_refl _) (fun _ _ _ h => h)
  · have := H.out; simp only [maxLen]; omega
  · have := H.out; omega
def DonePost (w : World) (bs : List Nat) (e : Ending) (w' : World) : Prop :=
  ∃ A c, e = .returned (.tuple #[.slice A bs.length c, .nilIface]) ∧ OwnRow w' w.heap.size w'.heap.size 5 1 (.slice A bs.length c) bs.length (u8s bs) ∧ Below w.heap.size w w'
set_option maxHeartbeats 400000 in
theorem done_some (w : World) (lo g : Nat) (bs : List Nat) (h : WAt w lo g bs) (h0 : 0 < bs.length) : Calls Tryd.prog 102 #[.pointer (some ⟨g, 0, none⟩)] w (DonePost w bs) := by
  have hl := h.2.1
  obtain ⟨A, c, hB, hown, hc1, hc2, hA⟩ := h.open_
  cases A with
  | none => have := hA rfl; omega
  | some ad =>
    have hr : Rd w 0 w.heap.size 1 (some ad) bs.length (u8s bs) := (Rd.of_own hown (fun g hg => (hown.lt g hg).2)).wider (Nat.zero_le _) (Nat.le_refl _)
    have hcl := clone8 w ad c bs (by omega) hr
    have cB := hB.cell
    have HH := Lib.hid (And.intro hown hr)
    clear hown hr hA h
    go_enter Tryd.func102, Tryd.ntmps102
    go_wp2_with (go_at_call 147; refine hcl.mono ?_; rintro e w1 ⟨A1, c1, rfl, o1, b1⟩)
    go_ret2
    exact ⟨A1, c1, rfl, o1, b1⟩
set_option maxHeartbeats 400000 in
theorem newWriter_any (w : World) : Calls Tryd.prog 98 #[] w fun e w' => e = .returned (.pointer (some ⟨w.heap.size, 0, none⟩)) ∧ w' = w.alloc (.cells #[.slice none 0 0, .bool false] 227) := by
  go_enter Tryd.func98, Tryd.ntmps98
  go_wp2
  go_ret
  exact ⟨rfl, rfl⟩
end Go.Proofs.YtnlncfjibbdimaaDoor

namespace Go.Proofs.YtnlncfjibbdimaaDoor
open Go.RowKit
set_option linter.unusedSimpArgs false
set_option linter.unusedVariables false
def NewWPost (w : World) (e : Ending) (w' : World) : Prop := ∃ g, e = .returned (.pointer (some ⟨g, 0, none⟩)) ∧ w.heap.size ≤ g ∧ WAt w' g g [] ∧ Below w.heap.size w w'
theorem newWriter_w (w : World) : Calls Tryd.prog 98 #[] w (NewWPost w) :=
  (newWriter_any w).mono fun e w' ⟨h1, h2⟩ => by
    subst h2
    exact ⟨_, h1, Nat.le_refl _, ⟨Nat.le_refl _, by simp, none, 0, Blk.new w 227 _, World.ownsRow_nil _ _ _ _⟩, (Below.refl _ _).alloc (Nat.le_refl _) _⟩
end Go.Proofs.YtnlncfjibbdimaaDoor

namespace Go.Proofs.YtnlncfjibbdimaaDoor
open Go.RowKit
set_option linter.unusedSimpArgs false
set_option linter.unusedVariables false
theorem num_int8 (w : World) (lo g : Nat) (n : Int) (bs : List Nat) (h : WAt w lo g bs) (hl : bs.length + (enc n.toNat).length ≤ 1099511627776) (hn : 0 ≤ n ∧ n ≤ 9223372036854775807) : Calls Tryd.prog 99 #[.pointer (some ⟨g, 0, none⟩), .int .i64 n] w (NumW w lo g (bs ++ enc n.toNat)) := by
  have := num_any8 w lo g n.toNat bs h hl (by omega)
  rw [Int.toNat_of_nonneg hn.1] at this
  exact this
theorem putId_int8 (w : World) (lo g : Nat) (a b c : Int) (bs : List Nat) (h : WAt w lo g bs) (hl : bs.length + (enc a.toNat).length + (enc b.toNat).length + (enc c.toNat).length ≤ 1099511627776) (ha : 0 ≤ a ∧ a ≤ 9223372036854775807) (hb : 0 ≤ b ∧ b ≤ 9223372036854775807) (hc : 0 ≤ c ∧ c ≤ 9223372036854775807) :
    Calls Tryd.prog 100 #[.pointer (some ⟨g, 0, none⟩), .agg #[.int .i64 a, .int .i64 b, .int .i64 c]] w (NumW w lo g (bs ++ enc a.toNat ++ enc b.toNat ++ enc c.toNat)) := by
  have := putId_any8 w lo g a.toNat b.toNat c.toNat bs h hl (by omega) (by omega) (by omega)
  rw [Int.toNat_of_nonneg ha.1, Int.toNat_of_nonneg hb.1, Int.toNat_of_nonneg hc.1] at this
  exact this
def encI (n : Int) : List Nat := enc n.toNat
def encS (s : ByteArray) : List Nat := enc s.size ++ bytesN s
/-- What is put ahead of the parts. -/
def putHead (c : Cmd) : List Nat :=
  encI c.kind ++ (encI c.idn ++ encI c.idb ++ encI c.ids) ++ encS c.bucket ++ encS c.key ++ (encI c.upn ++ encI c.upb ++ encI c.ups) ++ (encI c.pbn ++ encI c.pbb ++ encI c.pbs) ++ encI c.psize ++ encS c.etag ++ encI c.part ++ encI (c.parts.length : Int)
/-- A command's bytes. -/
def putN (c : Cmd) : List Nat := putHead c ++ c.parts.flatMap encI ++ encI c.time ++ encI c.days
theorem flat_len (l : List Int) (h : ∀ x ∈ l, inG x) : (l.flatMap encI).length ≤ 6 * l.length := by
  induction l with
  | nil => simp
  | cons x r ih =>
    have h1 := h x (by simp)
    have h2 : (encI x).length ≤ 6 := enc_len6 (by unfold inG at h1; omega)
    have := ih (fun y hy => h y (by simp [hy]))
    rw [List.flatMap_cons, List.length_append, List.length_cons]
    omega
structure Lens (c : Cmd) : Prop where
  l : (enc c.kind.toNat).length ≤ 6 ∧ (enc c.idn.toNat).length ≤ 6 ∧ (enc c.idb.toNat).length ≤ 6 ∧ (enc c.ids.toNat).length ≤ 6 ∧ (enc c.bucket.size).length ≤ 6 ∧ (bytesN c.bucket).length = c.bucket.size ∧ c.bucket.size ≤ 64 ∧ (enc c.key.size).length ≤ 6 ∧ (bytesN c.key).length = c.key.size ∧ c.key.size ≤ 200 ∧
    (enc c.upn.toNat).length ≤ 6 ∧ (enc c.upb.toNat).length ≤ 6 ∧ (enc c.ups.toNat).length ≤ 6 ∧ (enc c.pbn.toNat).length ≤ 6 ∧ (enc c.pbb.toNat).length ≤ 6 ∧ (enc c.pbs.toNat).length ≤ 6 ∧ (enc c.psize.toNat).length ≤ 6 ∧ (enc c.etag.size).length ≤ 6 ∧ (bytesN c.etag).length = c.etag.size ∧ c.etag.size ≤ 64 ∧
    (enc c.part.toNat).length ≤ 6 ∧ (enc (c.parts.length : Int).toNat).length ≤ 6 ∧ (enc c.time.toNat).length ≤ 6 ∧ (enc c.days.toNat).length ≤ 6
  r : inG c.kind ∧ inG c.idn ∧ inG c.idb ∧ inG c.ids ∧ inG c.upn ∧ inG c.upb ∧ inG c.ups ∧ inG c.pbn ∧ inG c.pbb ∧ inG c.pbs ∧ inG c.psize ∧ inG c.part ∧ inG c.time ∧ inG c.days ∧ c.parts.length ≤ 16
theorem Lens.of {c : Cmd} (h : c.InG) : Lens c := by
  have e : ∀ x : Int, inG x → (enc x.toNat).length ≤ 6 := fun x hx => enc_len6 (by unfold inG at hx; omega)
  have hb := h.bucket
  have hk := h.key
  have he := h.etag
  have hp := h.parts.2
  exact ⟨⟨e _ h.kind, e _ h.id.1, e _ h.id.2.1, e _ h.id.2.2, enc_len6 (by omega), bytesN_length _, hb, enc_len6 (by omega), bytesN_length _, hk, e _ h.up.1, e _ h.up.2.1, e _ h.up.2.2, e _ h.blob.1, e _ h.blob.2.1, e _ h.blob.2.2, e _ h.psize, enc_len6 (by omega), bytesN_length _, he, e _ h.part, enc_len6 (by omega), e _ h.time, e _ h.days⟩,
    h.kind, h.id.1, h.id.2.1, h.id.2.2, h.up.1, h.up.2.1, h.up.2.2, h.blob.1, h.blob.2.1, h.blob.2.2, h.psize, h.part, h.time, h.days, hp⟩
def PutPost (c : Cmd) (a1 : Addr) (w : World) (e : Ending) (w' : World) : Prop :=
  (chkB c = false → e = .returned (.tuple #[.slice none 0 0, errv a1]) ∧ Below w.heap.size w w') ∧ (chkB c = true → DonePost w (putN c) e w')
set_option maxRecDepth 100000 in
set_option maxHeartbeats 3200000 in
theorem put_any8 (c : Cmd) (hz : c.Sized) (w : World) (lo hi : Nat) (pv : Value) (hp : IntsAt w lo hi pv c.parts) (hhi : hi ≤ w.heap.size) (a1 : Addr) (h1 : w.cell? ⟨1, 0, none⟩ = some (errv a1)) :
    Calls Tryd.prog 44 #[.agg (c.cells pv).toArray] w (PutPost c a1 w) := by
  have h00 := World.block_lt_of_cell? w _ h1
  simp only at h00
  go_enter Tryd.func44, Tryd.ntmps44
  go_upto_region 1 with (fail)
  refine wp_letter (fun W => Below w.heap.size w W ∧ Blk W w.heap.size 81 (c.cells pv).toArray) ⟨(Below.refl _ _).alloc (Nat.le_refl _) _, Blk.new w 81 _⟩ ?_
  rintro W ⟨bW, hX⟩
  obtain ⟨x, hx⟩ : ∃ x, x = w.heap.size := ⟨_, rfl⟩
  rw [← hx] at hX ⊢
  have hxW : x < W.heap.size := hX.lt
  have hpW := hp.fr (Fr.of_below bW (fun _ => False)) hhi (fun _ _ _ h => h)
  have hck := check_any c hz W lo hi pv hpW (Nat.le_trans hhi bW.size) a1 ((bW.cell h00).trans h1)
  have BW := Lib.hid bW
  have HX := Lib.hid hx
  have HP := Lib.hid hpW
  have hhW := Nat.le_trans hhi bW.size
  clear hx bW hp hpW h1 hz
  have hrX : W.rangeAt x 0 (c.cells pv) := fun j v hv => by
    rw [Nat.zero_add]; exact (hX.cell j).trans (by simpa using hv)
  cases hc : chkB c with
  | false =>
    have HC := Lib.hid hc
    rw [hc] at hck
    clear hc
    go_wp2_with (first
      | ((with_reducible refine law_load 81 (.tmp 1) x 0 (c.cells pv) ?_ hrX Tryd.underlying81 ?_ ?_ ?_); rfl; rfl; exact cmd_info)
      | (go_at_call 43; refine hck.mono ?_; rintro e w1 ⟨rfl, b1⟩; rw [if_neg (by decide)])
      | fail)
    go_ret2
    exact ⟨fun _ => ⟨rfl, BW.out.trans (b1.mono BW.out.size)⟩, fun h => by rw [HC.out] at h; cases h⟩
  | true =>
    have HC := Lib.hid hc
    have HLEN := Lib.hid (Lens.of (chk_rng hc))
    have HPR := Lib.hid (chk_rng hc).parts
    rw [hc] at hck
    clear hc
    go_upto_region 2 with (first
      | ((with_reducible refine law_load 81 (.tmp 1) x 0 (c.cells pv) ?_ hrX Tryd.underlying81 ?_ ?_ ?_); rfl; rfl; exact cmd_info)
      | (go_at_call 43; refine hck.mono ?_; rintro e w1 ⟨rfl, b1⟩; rw [if_pos rfl])
      | fail)
    have hX1 := hX.below b1 hX.lt
    have hs1 := b1.size
    have HB1 := Lib.hid b1
    clear hrX hX b1
    go_upto_region 5 with (first
      | (go_at_call 98; refine (newWriter_w _).mono ?_; rintro e w2 ⟨g, rfl, hg, hW2, b2⟩)
      | fail)
    have hX := hX1.below b2 hX1.lt
    have hxg : x ≠ g := by omega
    have kept : ∀ (u v : World), Blk u x 81 (c.cells pv).toArray → Fr u.heap.size (WS u g) u v → Blk v x 81 (c.cells pv).toArray := fun u v hu f => hu.fr f hu.lt (fun hs => by
      rcases hs with hs | ⟨cs, hs⟩
      · exact hxg hs
      · exact hu.ne_type hs (by decide) rfl)
    have HK := Lib.hid kept
    have HB2 := Lib.hid b2
    have hN : WAt w2 g g [] ∧ Below g w2 w2 ∧ Fr w2.heap.size (WS w2 g) w2 w2 := ⟨hW2, Below.refl _ _, Fr.refl _ _ _⟩
    have HN := Lib.hid hN
    have HXX := Lib.hid hX
    have cX := hX.cell
    simp only [Cmd.cells] at cX
    obtain ⟨pA, pc, hpv, hR⟩ : ∃ pA pc, pv = .slice pA c.parts.length pc ∧ Rd W lo hi 1 pA c.parts.length (ints c.parts) := by
      obtain ⟨A1, c1, q1, _, _, _, q5⟩ := HP.out
      exact ⟨A1, c1, q1, q5⟩
    subst hpv
    have HRD := Lib.hid hR
    clear hR
    clear kept b2 hX1 hW2 hN hX hck
    go_upto_region 15 with (first
      | (go_at_call 99
         refine (num_int8 _ _ _ _ _ HN.out.1 (by have := HLEN.out.l; simp only [List.length_append, List.length_nil]; omega) (by have := HLEN.out.r; unfold inG at this; omega)).mono ?_
         rintro e wN ⟨rfl, h1, b1, f1⟩
         have HXX := Lib.hid (HK.out _ _ HXX.out f1)
         have HN := Lib.hid (NumW.trans (e := .returned (.tuple #[])) HN.out ⟨rfl, h1, b1, f1⟩).2
         have cX := HXX.out.cell
         simp only [Cmd.cells] at cX
         clear b1 f1 h1)
      | (go_at_call 100
         refine (putId_int8 _ _ _ _ _ _ _ HN.out.1 (by have := HLEN.out.l; simp only [List.length_append, List.length_nil]; omega) (by have := HLEN.out.r; unfold inG at this; omega) (by have := HLEN.out.r; unfold inG at this; omega) (by have := HLEN.out.r; unfold inG at this; omega)).mono ?_
         rintro e wN ⟨rfl, h1, b1, f1⟩
         have HXX := Lib.hid (HK.out _ _ HXX.out f1)
         have HN := Lib.hid (NumW.trans (e := .returned (.tuple #[])) HN.out ⟨rfl, h1, b1, f1⟩).2
         have cX := HXX.out.cell
         simp only [Cmd.cells] at cX
         clear b1 f1 h1)
      | (go_at_call 101
         refine (text_any8 _ _ _ _ _ HN.out.1 (by have := HLEN.out.l; simp only [List.length_append, List.length_nil]; omega)).mono ?_
         rintro e wN ⟨rfl, h1, b1, f1⟩
         have HXX := Lib.hid (HK.out _ _ HXX.out f1)
         have HN := Lib.hid (NumW.trans (e := .returned (.tuple #[])) HN.out ⟨rfl, h1, b1, f1⟩).2
         have cX := HXX.out.cell
         simp only [Cmd.cells] at cX
         clear b1 f1 h1)
      | fail)
    have hN : WAt wN g g (putHead c) ∧ Below g w2 wN ∧ Fr w2.heap.size (WS w2 g) w2 wN := by
      have h := HN.out
      have e : WAt wN g g (putHead c) := by simpa [putHead, encI, encS, List.append_assoc] using h.1
      exact ⟨e, h.2⟩
    have hhead : (putHead c).length ≤ 700 := by
      have := HLEN.out.l
      simp only [putHead, encI, encS, List.length_append]
      omega
    have HN := Lib.hid hN
    have HH := Lib.hid hhead
    have hg' : W.heap.size ≤ g := Nat.le_trans hs1 hg
    have hbW : ∀ wr, Below g w2 wr → Below W.heap.size W wr := fun wr h => (HB1.out.trans (HB2.out.mono hs1)).trans (h.mono hg')
    have HBW := Lib.hid hbW
    obtain ⟨wo, hwo⟩ : ∃ wo, wo = wN := ⟨_, rfl⟩
    rw [← hwo] at HN HXX cX ⊢
    obtain ⟨n, hn⟩ : ∃ n, n = c.parts.length := ⟨_, rfl⟩
    have hn16 : n ≤ 16 := by rw [hn]; exact HPR.out.2
    rw [← hn] at cX
    have HNN := Lib.hid hn
    clear hN hhead hbW hwo hn
    go_wp2_with (fail)
    go_loopw [61] (fun i wr => ∃ k : Nat, k ≤ n ∧ i = .int .i64 k ∧ (WAt wr g g (putHead c ++ (c.parts.take k).flatMap encI) ∧ Below g w2 wr ∧ Fr w2.heap.size (WS w2 g) w2 wr) ∧ Blk wr x 81 (c.cells (.slice pA c.parts.length pc)).toArray) (fun i _ => n - (intOf i).toNat)
    case atStart => exact ⟨0, Nat.zero_le _, rfl, by simpa using HN.out, HXX.out⟩
    case round =>
      obtain ⟨k, hk, rfl, hN, hX⟩ := hrel
      have hbr := HBW.out _ hN.2.1
      have hlenk : ((c.parts.take k).flatMap encI).length ≤ 96 := by
        have := flat_len (c.parts.take k) (fun y hy => HPR.out.1 y (List.mem_of_mem_take hy))
        have h2 : (c.parts.take k).length ≤ 16 := by rw [List.length_take, ← HNN.out]; omega
        omega
      have HN := Lib.hid hN
      have HXX := Lib.hid hX
      have HLK := Lib.hid hlenk
      clear hN hX hlenk cX
      by_cases hlt : k < n
      · obtain ⟨y, hy⟩ : ∃ y, c.parts[k]? = some y := ⟨_, List.getElem?_eq_getElem (by rw [← HNN.out]; exact hlt)⟩
        have q5 := HRD.out
        rw [← HNN.out] at q5
        obtain ⟨ad, hAd, _, hhi2, hcell⟩ := q5.2 (by omega)
        subst hAd
        obtain ⟨b, o, sp⟩ := ad
        have hc0 : ∃ u, W.cell? ((⟨b, o, sp⟩ : Addr).add 0) = some u := by
          have h0 : 0 < c.parts.length := by rw [← HNN.out]; omega
          exact ⟨_, hcell 0 _ (by rw [ints_getElem?, List.getElem?_eq_getElem h0]; rfl)⟩
        obtain ⟨u0, hu0⟩ := hc0
        have hsp : sp = none := by simpa [Addr.add] using World.cell?_spot hu0
        subst hsp
        have hck := hcell k (.int .i64 y) (by rw [ints_getElem?, hy]; rfl)
        rw [Addr.add_mid] at hck
        have hckr : wr.cell? ⟨b, o + k, none⟩ = some (.int .i64 y) := (hbr.cell (p := ⟨b, o + k, none⟩) (Nat.lt_of_lt_of_le hhi2 hhW)).trans hck
        have hyg : 0 ≤ y ∧ y ≤ 9223372036854775807 := by
          have := HPR.out.1 y (List.mem_of_getElem? hy)
          unfold inG at this; omega
        have hye : (enc y.toNat).length ≤ 6 := by
          have := HPR.out.1 y (List.mem_of_getElem? hy)
          exact enc_len6 (by unfold inG at this; omega)
        have HY := Lib.hid (And.intro hyg hye)
        have htk : (c.parts.take (k + 1)).flatMap encI = (c.parts.take k).flatMap encI ++ encI y := by
          rw [List.take_add_one, hy]
          simp
        have HT := Lib.hid htk
        clear q5 hcell hck hu0 hyg hye htk hy
        go_wp2_with (first
          | (go_at_call 99
             refine (num_int8 _ _ _ _ _ HN.out.1 (by have h1 := HH.out; have h2 := HLK.out; have h3 := HY.out.2; simp only [List.length_append]; omega) HY.out.1).mono ?_
             rintro e wM ⟨rfl, h1, b1, f1⟩
             have HXX := Lib.hid (HK.out _ _ HXX.out f1)
             have HN := Lib.hid (NumW.trans (e := .returned (.tuple #[])) HN.out ⟨rfl, h1, b1, f1⟩).2
             clear b1 f1 h1)
          | fail)
        go_roundw
        case rel => exact ⟨k + 1, by omega, by go_num, by rw [HT.out, ← List.append_assoc]; exact HN.out, HXX.out⟩
        case measure => simp [intOf]; omega
      · have hkn : k = n := by omega
        have hfull : (c.parts.take k).flatMap encI = c.parts.flatMap encI := by rw [hkn, HNN.out, List.take_length]
        have hN := HN.out
        rw [hfull] at hN
        have hlk := HLK.out
        rw [hfull] at hlk
        have HN := Lib.hid hN
        have HLK := Lib.hid hlk
        have cX := HXX.out.cell
        simp only [Cmd.cells] at cX
        clear hN hlk hfull
        go_wp2_with (first
          | (go_at_call 99
             refine (num_int8 _ _ _ _ _ HN.out.1 (by have h1 := HH.out; have h2 := HLK.out; have := HLEN.out.l; simp only [List.length_append]; omega) (by have := HLEN.out.r; unfold inG at this; omega)).mono ?_
             rintro e wM ⟨rfl, h1, b1, f1⟩
             have HXX := Lib.hid (HK.out _ _ HXX.out f1)
             have HN := Lib.hid (NumW.trans (e := .returned (.tuple #[])) HN.out ⟨rfl, h1, b1, f1⟩).2
             have cX := HXX.out.cell
             simp only [Cmd.cells] at cX
             clear b1 f1 h1)
          | (go_at_call 102
             have hpos : 0 < (putN c).length := by
               have := enc_pos c.kind.toNat
               simp only [putN, putHead, encI, List.length_append]
               omega
             refine (done_some _ g g (putN c) (by have h := HN.out.1; simpa [putN, encI, List.append_assoc] using h) hpos).mono ?_
             rintro e w9 ⟨A, cc, rfl, o9, b9⟩)
          | fail)
        go_ret2
        have hb2 : Below w.heap.size w w2 := BW.out.trans ((HB1.out.mono BW.out.size).trans (HB2.out.mono (Nat.le_trans BW.out.size HB1.out.size)))
        have hbN := HN.out.2.1
        have hsN := hbN.size
        have hg2 : w.heap.size ≤ g := Nat.le_trans (Nat.le_trans BW.out.size HB1.out.size) hg
        have hs2 := hb2.size
        exact ⟨fun h => (by rw [HC.out] at h; cases h), fun _ => ⟨A, cc, rfl, o9.wider (by omega) (Nat.le_refl _), (hb2.trans (hbN.mono hg2)).trans (b9.mono (by omega))⟩⟩
end Go.Proofs.YtnlncfjibbdimaaDoor
