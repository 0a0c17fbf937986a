/-
  The walks of wire.Writer, for small numbers and empty texts.
  The walks of Same and Begins: two ledgers compared.
  The walk of spoil: it writes over a ledger of the call's own.
  The walks of wire.Writer's Text of nothing, putId, NewWriter, Done.
  The walk of wire.Writer's Num, for every number that is not negative.
  The walks of wire.Writer's Text and of command.putId, in general.
-/
import Derived.Test.YtnlncfjibbdimaaDoorZB
import Derived.Deep.DeepCutAuto
import Derived.Test.YtnlncfjibbdimaaDoorZSameC
import Derived.Lib.QuietBelow
import Derived.Laws.Bits128
import Derived.Lib.AppendStr
namespace Go.Proofs.YtnlncfjibbdimaaDoor
open Go.RowKit
set_option linter.unusedSimpArgs false
set_option linter.unusedVariables false
theorem u8_info : (Tryd.prog.info? 5).map (fun i => (i.zero, i.size, i.bytes)) = some (some (.int .u8 0), 1, 1) := by kernel_rfl
theorem info_parts8 {i : Option TypeInfo} (h : i.map (fun i => (i.zero, i.size, i.bytes)) = some (some (.int .u8 0), 1, 1)) : ∃ j, i = some j ∧ j.zero = some (.int .u8 0) ∧ j.size = 1 ∧ j.bytes = 1 := by
  cases i with
  | none => simp at h
  | some j => simp at h; exact ⟨j, rfl, h.1, h.2.1, h.2.2⟩
def u8s (xs : List Nat) : List Value := xs.map fun (n : Nat) => Value.int .u8 n
theorem ownsRow_far {w : World} {base e size n g i : Nat} {v u : Value} {xs : List Value} {t : TypeId} {cs : Array Value} (h : w.ownsRow base e size v n xs) (hB : Blk w g t cs) (hne : t ≠ e) : (w.setCell ⟨g, i, none⟩ u).ownsRow base e size v n xs := by
  refine ⟨h.1, ?_⟩
  rcases h.2 with h2 | ⟨k, cap, cur, rfl, hb, hh, hr⟩
  · exact .inl h2
  · have hgk : k ≠ g := fun e => by
      subst e
      unfold Blk at hB
      rw [hB] at hh
      injection hh with hh
      injection hh with _ hh
      exact hne hh
    exact .inr ⟨k, cap, cur, rfl, hb, (Below.heap_setCell w ⟨g, i, none⟩ u k hgk).trans hh, hr⟩
theorem own_ne_blk {w : World} {base e size n g : Nat} {v : Value} {xs : List Value} {t : TypeId} {cs : Array Value} (h : w.ownsRow base e size v n xs) (hB : Blk w g t cs) (hne : t ≠ e) : some g ≠ v.ownBlock := by
  rcases h.2 with ⟨rfl, _⟩ | ⟨k, cap, cur, rfl, hb, hh, hr⟩
  · simp [Value.ownBlock]
  · intro he
    obtain rfl : g = k := by simpa [Value.ownBlock] using he
    unfold Blk at hB
    rw [hB] at hh
    injection hh with hh
    injection hh with _ hh
    exact hne hh
/-- A writer at block g, with its bytes; all of its memory lies from block lo on. -/
def WAt (w : World) (lo g : Nat) (bs : List Nat) : Prop := lo ≤ g ∧ bs.length ≤ 1099511627776 ∧ ∃ A c, Blk w g 227 #[.slice A bs.length c, .bool false] ∧ w.ownsRow lo 5 1 (.slice A bs.length c) bs.length (u8s bs)
/-- What a writer's call may turn: its own block, and blocks of bytes. -/
def WS (w : World) (g : Nat) (k : Nat) : Prop := k = g ∨ ∃ cs, Blk w k 5 cs
def NumW (w : World) (lo g : Nat) (bs : List Nat) (e : Ending) (w' : World) : Prop := e = .returned (.tuple #[]) ∧ WAt w' lo g bs ∧ Below lo w w' ∧ Fr w.heap.size (WS w g) w w'
theorem own_blk {w : World} {base e size n k : Nat} {v : Value} {xs : List Value} (h : w.ownsRow base e size v n xs) (hk : v.ownBlock = some k) : ∃ cs, Blk w k e cs := by
  rcases h.2 with ⟨rfl, _⟩ | ⟨k', cap, cur, rfl, hb, hh, hr⟩
  · simp [Value.ownBlock] at hk
  · obtain rfl : k' = k := by simpa [Value.ownBlock] using hk
    exact ⟨cur, hh⟩
end Go.Proofs.YtnlncfjibbdimaaDoor

namespace Go.Proofs.YtnlncfjibbdimaaDoor
open Go.RowKit
set_option linter.unusedSimpArgs false
set_option linter.unusedVariables false
section
variable {P : Program} {a : Act} {d : Option Tmp} {tp : TypeId} {ps : String} {af : Array Edge} {gd : Option (Nat × Bool)} {C : World → Prop} {K : Act → Prop}
/-- In a region that only reads: a whole row is loaded. -/
theorem law_quiet_load (ty : TypeId) (x : Operand) (b o : Nat) (cs : List Value) (hx : a.eval x = .pointer (some ⟨b, o, none⟩)) (hS : ∀ w, C w → w.rangeAt b o cs)
    {ds : TypeDesc} (hu : P.underlying ty = some ds) (hd : ds.isRow = true) (hi : (P.info? ty).map (·.size) = some cs.length)
    (h : K (a.put d (.agg cs.toArray))) : Oper.quiet P { dst := d, op := .load ty x, type := tp, pos := ps, after := af, guard := none } a C K :=
  ⟨_, fun w hw' => by
    unfold Oper.quietAt execOp
    simp only [hx, Instr.loadAt, Instr.sureAddr, Sem.run_bind, Sem.run_pure, Result.andThen_ok, run_loadVar_mid w b o ty cs ds (hS w hw') hu hd hi]
    exact ⟨rfl, rfl⟩, h⟩
end
theorem tf_iff {p : Prop} : tf p = true ↔ p := ⟨fun h => Classical.byContradiction fun hn => (by rw [tf_false hn] at h; cases h), tf_true⟩
def SameOn {α : Type} (xs ys : List α) (k : Nat) : Prop := xs.take k = ys.take k
theorem SameOn.step {α : Type} {xs ys : List α} {k : Nat} {c : α} (h : SameOn xs ys k) (h1 : xs[k]? = some c) (h2 : ys[k]? = some c) : SameOn xs ys (k + 1) := by
  unfold SameOn at *
  rw [List.take_add_one, List.take_add_one, h, h1, h2]
theorem SameOn.all {α : Type} {xs ys : List α} (h : SameOn xs ys xs.length) (hl : xs.length = ys.length) : xs = ys := by
  unfold SameOn at h
  rw [List.take_length, hl, List.take_length] at h
  exact h
set_option maxHeartbeats 800000 in
theorem same_any (w : World) (lo1 hi1 lo2 hi2 : Nat) (va vb : Value) (l m : List Cmd) (ha : LedAt w lo1 hi1 va l) (hb : LedAt w lo2 hi2 vb m) (h1 : hi1 ≤ w.heap.size) (h2 : hi2 ≤ w.heap.size) :
    Calls Tryd.prog 59 #[va, vb] w (YesNo (tf (l = m)) w) := by
  obtain ⟨A, c, rfl, hl1, hm1, _⟩ := ha.form
  obtain ⟨B, d, rfl, hl2, hm2, _⟩ := hb.form
  obtain ⟨n, hn⟩ : ∃ n, n = l.length := ⟨_, rfl⟩
  obtain ⟨q, hq⟩ : ∃ q, q = m.length := ⟨_, rfl⟩
  rw [← hn] at ha hl1 ⊢
  rw [← hq] at hb hl2 ⊢
  have hn63 : n ≤ 9223372036854775807 := by simp only [maxLen] at hm1; omega
  have hq63 : q ≤ 9223372036854775807 := by simp only [maxLen] at hm2; omega
  have HN := Lib.hid hn
  have HM := Lib.hid hq
  clear hn hq hl1 hl2 hm1 hm2
  by_cases hnm : n = q
  · subst hnm
    have hne : ((n : Int) != (n : Int)) = false := by simp
    go_enter Tryd.func59, Tryd.ntmps59
    go_wp2
    go_loopw [13] (fun i wr => ∃ k : Nat, k ≤ n ∧ i = .int .i64 k ∧ SameOn l m k ∧ Below w.heap.size w wr) (fun i _ => n - (intOf i).toNat)
    case atStart => exact ⟨0, Nat.zero_le _, rfl, by simp [SameOn], Below.refl _ _⟩
    case round =>
      obtain ⟨k, hk, rfl, hs, hbel⟩ := hrel
      by_cases hlt : k < n
      · have hk1 : k < l.length := by rw [← HN.out]; exact hlt
        have hk2 : k < m.length := by rw [← HM.out]; exact hlt
        have hlk1 := List.getElem?_eq_getElem hk1
        have hlk2 := List.getElem?_eq_getElem hk2
        obtain ⟨b1, o1, p1, rfl, hlo1, hhi1, hr1, hp1⟩ := ha.range hlk1
        obtain ⟨b2, o2, p2, rfl, hlo2, hhi2, hr2, hp2⟩ := hb.range hlk2
        obtain ⟨x, hx⟩ : ∃ x, x = l[k] := ⟨_, rfl⟩
        obtain ⟨y, hy⟩ : ∃ y, y = m[k] := ⟨_, rfl⟩
        rw [← hx] at hr1 hp1 hlk1
        rw [← hy] at hr2 hp2 hlk2
        clear hx hy
        have HX := Lib.hid hlk1
        have HY := Lib.hid hlk2
        have kr1 : ∀ w', (∃ p : Regrown, w' = Go.Sort.grow (redrawn wr p.d) p.os) → w'.rangeAt b1 (o1 + k * 18) (x.cells p1) := fun w' ⟨p, hp⟩ => by
          subst hp; exact rangeAt_fr hr1 (Fr.of_below (hbel.trans ((below_regrown wr p.d p.os).mono hbel.size)) (fun _ => False)) (by omega) (fun h => h)
        have kr2 : ∀ w', (∃ p : Regrown, w' = Go.Sort.grow (redrawn wr p.d) p.os) → w'.rangeAt b2 (o2 + k * 18) (y.cells p2) := fun w' ⟨p, hp⟩ => by
          subst hp; exact rangeAt_fr hr2 (Fr.of_below (hbel.trans ((below_regrown wr p.d p.os).mono hbel.size)) (fun _ => False)) (by omega) (fun h => h)
        have kc : ∀ dd os, Calls Tryd.prog 45 #[.agg (x.cells p1).toArray, .agg (y.cells p2).toArray] (Go.Sort.grow (redrawn wr dd) os) (YesNo (tf (x = y)) (Go.Sort.grow (redrawn wr dd) os)) := fun dd os => by
          have hB := hbel.trans ((below_regrown wr dd os).mono hbel.size)
          have hsz := hB.size
          exact sameCommand_any _ lo1 hi1 lo2 hi2 p1 p2 x y (hp1.fr (Fr.of_below hB (fun _ => False)) h1 (fun _ _ _ h => h)) (hp2.fr (Fr.of_below hB (fun _ => False)) h2 (fun _ _ _ h => h)) (by omega) (by omega)
        obtain ⟨t, ht⟩ : ∃ t, t = tf (x = y) := ⟨_, rfl⟩
        rw [← ht] at kc
        have HT := Lib.hid ht
        clear ht hr1 hr2 hp1 hp2 ha hb hlk1 hlk2
        cases t with
        | true =>
          go_wp2_with (fail)
          refine wp_region_quiet_below (by kernel_rfl) (by kernel_rfl) ?_
          repeat (first
            | (go_big_quiet_want; (with_reducible refine law_quiet_load 81 (.tmp 18) b1 (o1 + k * 18) (x.cells p1) ?_ kr1 Tryd.underlying81 ?_ ?_ ?_); rfl; rfl; exact cmd_info; go_big_quiet_on; (conv => arg 6; simp [go_sem]))
            | (go_big_quiet_want; (with_reducible refine law_quiet_load 81 (.tmp 22) b2 (o2 + k * 18) (y.cells p2) ?_ kr2 Tryd.underlying81 ?_ ?_ ?_); rfl; rfl; exact cmd_info; go_big_quiet_on; (conv => arg 6; simp [go_sem]))
            | go_big_quiet_step (first | exact Calls.regrown_of (kc _ _)))
          refine wpQuiet_nil ?_
          intro _ hw'
          obtain ⟨⟨dq, osq⟩, hw''⟩ := hw'
          subst hw''
          have hB := hbel.trans ((below_regrown wr dq osq).mono hbel.size)
          go_wp2
          go_roundw
          case rel => exact ⟨k + 1, by omega, by go_num, hs.step HX.out (by have hxy := tf_iff.1 HT.out.symm; rw [hxy]; exact HY.out), hB⟩
          case measure => simp [intOf]; omega
        | false =>
          go_wp2_with (fail)
          refine wp_region_quiet_below (by kernel_rfl) (by kernel_rfl) ?_
          repeat (first
            | (go_big_quiet_want; (with_reducible refine law_quiet_load 81 (.tmp 18) b1 (o1 + k * 18) (x.cells p1) ?_ kr1 Tryd.underlying81 ?_ ?_ ?_); rfl; rfl; exact cmd_info; go_big_quiet_on; (conv => arg 6; simp [go_sem]))
            | (go_big_quiet_want; (with_reducible refine law_quiet_load 81 (.tmp 22) b2 (o2 + k * 18) (y.cells p2) ?_ kr2 Tryd.underlying81 ?_ ?_ ?_); rfl; rfl; exact cmd_info; go_big_quiet_on; (conv => arg 6; simp [go_sem]))
            | go_big_quiet_step (first | exact Calls.regrown_of (kc _ _)))
          refine wpQuiet_nil ?_
          intro _ hw'
          obtain ⟨⟨dq, osq⟩, hw''⟩ := hw'
          subst hw''
          have hB := hbel.trans ((below_regrown wr dq osq).mono hbel.size)
          go_wp2
          go_ret
          exact ⟨ret_bool (by symm; exact tf_false (fun h => by
            have h1 := HX.out
            have h2 := HY.out
            rw [h, h2] at h1
            have h3 := HT.out
            rw [tf_true (Option.some.inj h1).symm] at h3
            cases h3)), hB⟩
      · have hkn : k = n := by omega
        subst hkn
        go_wp2
        go_ret
        have h1 := HN.out
        exact ⟨ret_bool (by symm; exact tf_true (SameOn.all (by rw [← h1]; exact hs) (by rw [← h1]; exact HM.out))), hbel⟩
  · have hne : ((n : Int) != (q : Int)) = true := by simp; omega
    have HNM := Lib.hid hnm
    clear hnm
    go_enter Tryd.func59, Tryd.ntmps59
    go_wp2
    go_ret
    exact ⟨ret_bool (by symm; exact tf_false (fun h => HNM.out (by rw [HN.out, HM.out, h]))), Below.refl _ _⟩
end Go.Proofs.YtnlncfjibbdimaaDoor

namespace Go.Proofs.YtnlncfjibbdimaaDoor
open Go.RowKit
set_option linter.unusedSimpArgs false
set_option linter.unusedVariables false
theorem Blk.ne_type {w : World} {g h : Nat} {t u : TypeId} {a b : Array Value} (h1 : Blk w g t a) (h2 : Blk w h u b) (hne : t ≠ u) : g ≠ h := by
  rintro rfl
  unfold Blk at h1 h2
  rw [h1] at h2
  injection h2 with h2
  injection h2 with _ h2
  exact hne h2
end Go.Proofs.YtnlncfjibbdimaaDoor

namespace Go.Proofs.YtnlncfjibbdimaaDoor
open Go.RowKit
set_option linter.unusedSimpArgs false
set_option linter.unusedVariables false
theorem WAt.fr {w w' : World} {lo g : Nat} {bs : List Nat} {B : Nat} {S : Nat → Prop} (h : WAt w lo g bs) (f : Fr B S w w') (hB : w.heap.size ≤ B) (hS : ∀ k, lo ≤ k → k < w.heap.size → ¬ S k) : WAt w' lo g bs := by
  obtain ⟨h1, h2, A, c, h3, h4⟩ := h
  have hg := h3.lt
  exact ⟨h1, h2, A, c, h3.fr f (by omega) (hS g h1 hg), (OwnRow.fr (lo := lo) (hi := w.heap.size) ⟨h4, fun k hk => (h4.lt k hk).2⟩ f hB hS).1⟩
theorem WAt.below {w w' : World} {lo g : Nat} {bs : List Nat} {B : Nat} (h : WAt w lo g bs) (f : Below B w w') (hB : w.heap.size ≤ B) : WAt w' lo g bs := h.fr (Fr.of_below f (fun _ => False)) hB (fun _ _ _ h => h)
theorem WAt.open_ {w : World} {lo g : Nat} {bs : List Nat} (h : WAt w lo g bs) : ∃ A c, Blk w g 227 #[.slice A bs.length c, .bool false] ∧ w.ownsRow lo 5 1 (.slice A bs.length c) bs.length (u8s bs) ∧ bs.length ≤ c ∧ c ≤ maxLen ∧ (A = none → bs.length = 0) := by
  obtain ⟨_, _, A, c, h3, h4⟩ := h
  obtain ⟨A', c', hv, q1, q2, q3⟩ := OwnRow.form (w := w) (lo := lo) (hi := w.heap.size) ⟨h4, fun k hk => (h4.lt k hk).2⟩
  injection hv with e1 _ e2
  subst e1; subst e2
  exact ⟨A, c, h3, h4, q1, q2, fun h => (q3 h).1⟩
theorem NumW.trans {w w1 w2 : World} {lo g : Nat} {bs cs : List Nat} {e : Ending} (h : WAt w1 lo g bs ∧ Below lo w w1 ∧ Fr w.heap.size (WS w g) w w1) (k : NumW w1 lo g cs e w2) : NumW w lo g cs e w2 := by
  obtain ⟨_, b1, f1⟩ := h
  obtain ⟨he, h2, b2, f2⟩ := k
  refine ⟨he, h2, b1.trans b2, f1.step f2 f1.size (fun k hk hs => ?_)⟩
  rcases hs with rfl | ⟨cs, hcs⟩
  · exact .inl rfl
  · by_cases hkg : WS w g k
    · exact hkg
    · exact .inr ⟨cs, by have := f1.block k hk hkg; unfold Blk at hcs ⊢; rw [← this]; exact hcs⟩
end Go.Proofs.YtnlncfjibbdimaaDoor

namespace Go.Proofs.YtnlncfjibbdimaaDoor
open Go.RowKit
set_option linter.unusedSimpArgs false
set_option linter.unusedVariables false
/-- A number's bytes. -/
def enc (n : Nat) : List Nat := if h : n < 128 then [n] else (n % 128 + 128) :: enc (n / 128)
termination_by n
decreasing_by omega
theorem enc_small {n : Nat} (h : n < 128) : enc n = [n] := by rw [enc, dif_pos h]
theorem enc_big {n : Nat} (h : ¬ n < 128) : enc n = (n % 128 + 128) :: enc (n / 128) := by rw [enc, dif_neg h]
theorem enc_pos (n : Nat) : 1 ≤ (enc n).length := by rw [enc]; split <;> simp
set_option maxRecDepth 100000 in
set_option maxHeartbeats 3200000 in
theorem num_any8 (w : World) (lo g n : Nat) (bs : List Nat) (h : WAt w lo g bs) (hl : bs.length + (enc n).length ≤ 1099511627776) (hn : n ≤ 9223372036854775807) : Calls Tryd.prog 99 #[.pointer (some ⟨g, 0, none⟩), .int .i64 n] w (NumW w lo g (bs ++ enc n)) := by
  obtain ⟨i0, hi0, hz0, hz1, hz2⟩ := info_parts8 u8_info
  have hn0 : ¬ (n : Int) < 0 := by omega
  have H0 := Lib.hid h
  clear h
  go_enter Tryd.func99, Tryd.ntmps99
  go_wp2
  go_loopw [1] (fun v wr => ∃ (m : Nat) (bs' : List Nat), v = .int .i64 m ∧ m ≤ 9223372036854775807 ∧ bs' ++ enc m = bs ++ enc n ∧ WAt wr lo g bs' ∧ Below lo w wr ∧ Fr w.heap.size (WS w g) w wr) (fun v _ => (intOf v).toNat)
  case atStart => exact ⟨n, bs, rfl, hn, rfl, H0.out, Below.refl _ _, Fr.refl _ _ _⟩
  case round =>
    obtain ⟨m, bs', rfl, hm, hbs, hI⟩ := hrel
    have hlen : bs'.length + (enc m).length ≤ 1099511627776 := by
      have := congrArg List.length hbs
      simp only [List.length_append] at this
      omega
    have hep := enc_pos m
    have hlo := hI.1.1
    obtain ⟨A, c, hB, hown, hc1, hc2, hA⟩ := hI.1.open_
    obtain ⟨k, hk⟩ : ∃ k, k = bs'.length := ⟨_, rfl⟩
    rw [← hk] at hB hown hc1 hA
    have hkl : k < 1099511627776 := by omega
    have hg := hB.lt
    have cB := hB.cell
    have HBS := Lib.hid hbs
    have HI := Lib.hid hI
    have HL := Lib.hid hkl
    have HO := Lib.hid hlo
    have HB := Lib.hid hB
    have HO5 := Lib.hid hown
    have HK := Lib.hid hk
    clear hbs hI hlo hB hown hc1 hc2 hA hlen hep hkl hk
    by_cases hbig : (m : Int) > 127
    · obtain ⟨q, hq⟩ : ∃ q, q = m % 128 := ⟨_, rfl⟩
      obtain ⟨e, he⟩ : ∃ e, e = q + 128 := ⟨_, rfl⟩
      obtain ⟨d, hd⟩ : ∃ d, d = m / 128 := ⟨_, rfl⟩
      have hb1 : bits BinOp.and IntKind.i64 (m : Int) 127 = (q : Int) := by rw [i64_and127]; omega
      have hb2 : (q : Int) % 256 = q := by omega
      have hb3 : bits BinOp.or IntKind.u8 (q : Int) 128 = (e : Int) := by rw [u8_or128_right _ (by omega) (by omega)]; omega
      have hb4 : (m : Int) / 128 = (d : Int) := by omega
      have henc : enc m = e :: enc d := by rw [enc_big (by omega), he, hq, hd]
      have hdm : d < m := by omega
      have HE := Lib.hid henc
      clear hq he hd henc
      have hownW : (wr.alloc (.cells #[.int .u8 e] 5)).ownsRow lo 5 1 (.slice A k c) k (u8s bs') :=
        (OwnRow.fr (lo := lo) (hi := wr.heap.size) ⟨HO5.out, fun g hg => (HO5.out.lt g hg).2⟩ (Fr.of_below ((Below.refl wr.heap.size wr).alloc (Nat.le_refl _) _) (fun _ => False)) (Nat.le_refl _) (fun _ _ _ h => h)).1
      have hrd : Rd (wr.alloc (.cells #[.int .u8 e] 5)) 0 (wr.heap.size + 1) 1 (some ⟨wr.heap.size, 0, none⟩) 1 [.int .u8 e] :=
        ⟨rfl, fun _ => ⟨_, rfl, Nat.zero_le _, by simp, fun j u hu => by rw [Addr.add_mid, Nat.zero_add, (Blk.new wr 5 _).cell j]; simpa using hu⟩⟩
      have HW := Lib.hid (And.intro hownW hrd)
      clear hownW hrd
      go_wp2_with (at_builtin
                   refine wpList_append_any _ rfl (.tmp 15) (.tmp 20) 84 rfl lo 5 i0 _ 1 1 Tryd.underlying84 hi0 hz0 hz1 hz2 rfl (by decide) (.slice A k c) k (u8s bs') rfl HW.out.1
                     0 (wr.heap.size + 1) (some ⟨wr.heap.size, 0, none⟩) 1 1 [.int .u8 e] rfl HW.out.2 (by simp [Value.oneCell']) (by have := HL.out; simp only [maxLen]; omega) (by have := HL.out; omega) (by have := HO.out; simp; omega) ?_
                   intro v1 w1 hown1 hg1 hat1
                   have hO1 : OwnRow w1 lo w1.heap.size 5 1 v1 (k + 1) (u8s bs' ++ [.int .u8 e]) := ⟨hown1, fun g hg => (hown1.lt g hg).2⟩
                   have hB1 : Blk w1 g 227 #[.slice A k c, .bool false] := (HB.out.alloc (.cells #[.int .u8 e] 5)).grown hg1 (own_ne_blk HW.out.1 (HB.out.alloc _) (by decide))
                   have hb1 : Below lo wr w1 := ((Below.refl lo wr).alloc (by have := HO.out; omega) _).grown hg1 (by have := HO.out; simp; omega) (fun k hk => (HW.out.1.lt k hk).1)
                   obtain ⟨A1, c1, hv1, _⟩ := hO1.form
                   subst hv1
                   have cB1 := hB1.cell
                   have fB1 := hB1.frozen
                   have hfin : WAt (w1.setCell ⟨g, 0, none⟩ (.slice A1 (k + 1) c1)) lo g (bs' ++ [e]) := ⟨HO.out, by have := HL.out; have := HK.out; simp; omega, A1, c1, by have h := hB1.set_ 0 (.slice A1 (k + 1) c1); rw [HK.out] at h ⊢; simpa using h, by have h := ownsRow_far (i := 0) (u := .slice A1 (k + 1) c1) hown1 hB1 (by decide); rw [HK.out] at h ⊢; simpa [u8s] using h⟩
                   have hbf : Below lo wr (w1.setCell ⟨g, 0, none⟩ (.slice A1 (k + 1) c1)) := hb1.setCell (p := ⟨g, 0, none⟩) HO.out _
                   have hfr : Fr wr.heap.size (WS wr g) wr (w1.setCell ⟨g, 0, none⟩ (.slice A1 (k + 1) c1)) :=
                     (((Fr.refl wr.heap.size (WS wr g) wr).alloc (Nat.le_refl _) (.cells #[.int .u8 e] 5)).grown hg1 (by simp) (fun k hk => by
                       have hk' := own_blk HO5.out hk
                       exact .inl (.inr hk'))).setCell (p := ⟨g, 0, none⟩) (.inl (.inl rfl)) _
                   have HF := Lib.hid (NumW.trans (e := .returned (.tuple #[])) HI.out ⟨rfl, hfin, hbf, hfr⟩).2
                   clear hfr hfin hbf hO1 hB1 hb1 hown1 hg1 hat1)
      go_roundw
      case rel => exact ⟨d, bs' ++ [e], by go_num, by omega, by rw [← HBS.out, HE.out]; simp, HF.out⟩
      case measure => simp [intOf]; omega
    · have hmod : (m : Int) % 256 = m := by omega
      have henc : enc m = [m] := enc_small (by omega)
      have HE := Lib.hid henc
      clear henc
      have hownW : (wr.alloc (.cells #[.int .u8 m] 5)).ownsRow lo 5 1 (.slice A k c) k (u8s bs') :=
        (OwnRow.fr (lo := lo) (hi := wr.heap.size) ⟨HO5.out, fun g hg => (HO5.out.lt g hg).2⟩ (Fr.of_below ((Below.refl wr.heap.size wr).alloc (Nat.le_refl _) _) (fun _ => False)) (Nat.le_refl _) (fun _ _ _ h => h)).1
      have hrd : Rd (wr.alloc (.cells #[.int .u8 m] 5)) 0 (wr.heap.size + 1) 1 (some ⟨wr.heap.size, 0, none⟩) 1 [.int .u8 m] :=
        ⟨rfl, fun _ => ⟨_, rfl, Nat.zero_le _, by simp, fun j u hu => by rw [Addr.add_mid, Nat.zero_add, (Blk.new wr 5 _).cell j]; simpa using hu⟩⟩
      have HW := Lib.hid (And.intro hownW hrd)
      clear hownW hrd
      go_wp2_with (at_builtin
                   refine wpList_append_any _ rfl (.tmp 30) (.tmp 33) 84 rfl lo 5 i0 _ 1 1 Tryd.underlying84 hi0 hz0 hz1 hz2 rfl (by decide) (.slice A k c) k (u8s bs') rfl HW.out.1
                     0 (wr.heap.size + 1) (some ⟨wr.heap.size, 0, none⟩) 1 1 [.int .u8 m] rfl HW.out.2 (by simp [Value.oneCell']) (by have := HL.out; simp only [maxLen]; omega) (by have := HL.out; omega) (by have := HO.out; simp; omega) ?_
                   intro v1 w1 hown1 hg1 hat1
                   have hO1 : OwnRow w1 lo w1.heap.size 5 1 v1 (k + 1) (u8s bs' ++ [.int .u8 m]) := ⟨hown1, fun g hg => (hown1.lt g hg).2⟩
                   have hB1 : Blk w1 g 227 #[.slice A k c, .bool false] := (HB.out.alloc (.cells #[.int .u8 m] 5)).grown hg1 (own_ne_blk HW.out.1 (HB.out.alloc _) (by decide))
                   have hb1 : Below lo wr w1 := ((Below.refl lo wr).alloc (by have := HO.out; omega) _).grown hg1 (by have := HO.out; simp; omega) (fun k hk => (HW.out.1.lt k hk).1)
                   obtain ⟨A1, c1, hv1, _⟩ := hO1.form
                   subst hv1
                   have cB1 := hB1.cell
                   have fB1 := hB1.frozen
                   have hfin : WAt (w1.setCell ⟨g, 0, none⟩ (.slice A1 (k + 1) c1)) lo g (bs' ++ [m]) := ⟨HO.out, by have := HL.out; have := HK.out; simp; omega, A1, c1, by have h := hB1.set_ 0 (.slice A1 (k + 1) c1); rw [HK.out] at h ⊢; simpa using h, by have h := ownsRow_far (i := 0) (u := .slice A1 (k + 1) c1) hown1 hB1 (by decide); rw [HK.out] at h ⊢; simpa [u8s] using h⟩
                   have hbf : Below lo wr (w1.setCell ⟨g, 0, none⟩ (.slice A1 (k + 1) c1)) := hb1.setCell (p := ⟨g, 0, none⟩) HO.out _
                   have hfr : Fr wr.heap.size (WS wr g) wr (w1.setCell ⟨g, 0, none⟩ (.slice A1 (k + 1) c1)) :=
                     (((Fr.refl wr.heap.size (WS wr g) wr).alloc (Nat.le_refl _) (.cells #[.int .u8 m] 5)).grown hg1 (by simp) (fun k hk => by
                       have hk' := own_blk HO5.out hk
                       exact .inl (.inr hk'))).setCell (p := ⟨g, 0, none⟩) (.inl (.inl rfl)) _
                   have HF := Lib.hid (NumW.trans (e := .returned (.tuple #[])) HI.out ⟨rfl, hfin, hbf, hfr⟩).2
                   clear hfr hfin hbf hO1 hB1 hb1 hown1 hg1 hat1)
      go_end0
      have hf := HF.out
      rw [← HE.out, HBS.out] at hf
      exact ⟨rfl, hf⟩
end Go.Proofs.YtnlncfjibbdimaaDoor

namespace Go.Proofs.YtnlncfjibbdimaaDoor
open Go.RowKit
set_option linter.unusedSimpArgs false
set_option linter.unusedVariables false
def bytesN (s : ByteArray) : List Nat := s.data.toList.map (·.toNat)
theorem bytesN_length (s : ByteArray) : (bytesN s).length = s.size := by simp [bytesN]
theorem u8s_bytesN (s : ByteArray) : Lib.strCells s = u8s (bytesN s) := by
  simp only [Lib.strCells, u8s, bytesN, List.map_map]
  rfl
set_option maxRecDepth 100000 in
set_option maxHeartbeats 1600000 in
theorem text_any8 (w : World) (lo g : Nat) (s : ByteArray) (bs : List Nat) (h : WAt w lo g bs) (hl : bs.length + (enc s.size).length + s.size ≤ 1099511627776) :
    Calls Tryd.prog 101 #[.pointer (some ⟨g, 0, none⟩), .string s] w (NumW w lo g (bs ++ enc s.size ++ bytesN s)) := by
  obtain ⟨i0, hi0, hz0, hz1, hz2⟩ := info_parts8 u8_info
  have hs63 : s.size ≤ 9223372036854775807 := by omega
  have hnum := num_any8 w lo g s.size bs h (by omega) hs63
  have HLL := Lib.hid hl
  clear hl h
  go_enter Tryd.func101, Tryd.ntmps101
  go_wp2_with (first
               | (at_builtin
                  refine Lib.wpList_append_own_string _ rfl (.tmp 12) (.tmp 13) 84 9 rfl lo 5 i0 Tryd.underlying84 Tryd.underlying9 hi0 hz0 hz1 hz2 (.slice A k c) k (u8s (bs ++ enc s.size)) rfl HO5.out s rfl (by have hk1 := HK.out; have := HLL.out; rw [List.length_append] at hk1; simp only [maxLen]; omega) (by have hk1 := HK.out; have := HLL.out; rw [List.length_append] at hk1; omega) (by have := HO.out; have := HB.out.lt; omega) ?_
                  intro v2 w2 hown2 hg2 hat2
                  have hO2 : OwnRow w2 lo w2.heap.size 5 1 v2 (k + s.size) (u8s (bs ++ enc s.size) ++ Lib.strCells s) := ⟨hown2, fun g hg => (hown2.lt g hg).2⟩
                  have hB2 : Blk w2 g 227 #[.slice A k c, .bool false] := HB.out.grown hg2 (own_ne_blk HO5.out HB.out (by decide))
                  have hb2 : Below lo w1 w2 := (Below.refl lo w1).grown hg2 (by have := HO.out; have := HB.out.lt; omega) (fun k hk => (HO5.out.lt k hk).1)
                  obtain ⟨A2, c2, hv2, _⟩ := hO2.form
                  subst hv2
                  have cB2 := hB2.cell
                  have fB2 := hB2.frozen
                  have hlen : (bs ++ enc s.size ++ bytesN s).length = k + s.size := by rw [List.length_append, bytesN_length, ← HK.out]
                  have hfin : WAt (w2.setCell ⟨g, 0, none⟩ (.slice A2 (k + s.size) c2)) lo g (bs ++ enc s.size ++ bytesN s) := ⟨HO.out, by rw [hlen]; have hk1 := HK.out; have := HLL.out; rw [List.length_append] at hk1; omega, A2, c2, by rw [hlen]; simpa using hB2.set_ 0 (.slice A2 (k + s.size) c2), by
                    have h := ownsRow_far (i := 0) (u := .slice A2 (k + s.size) c2) hown2 hB2 (by decide)
                    rw [u8s_bytesN] at h
                    rw [hlen]
                    simpa [u8s] using h⟩
                  have hbf : Below lo w1 (w2.setCell ⟨g, 0, none⟩ (.slice A2 (k + s.size) c2)) := hb2.setCell (p := ⟨g, 0, none⟩) HO.out _
                  have hfr : Fr w1.heap.size (WS w1 g) w1 (w2.setCell ⟨g, 0, none⟩ (.slice A2 (k + s.size) c2)) :=
                    ((Fr.refl w1.heap.size (WS w1 g) w1).grown hg2 (Nat.le_refl _) (fun k hk => by
                      have hk' := own_blk HO5.out hk
                      exact .inl (.inr hk'))).setCell (p := ⟨g, 0, none⟩) (.inl (.inl rfl)) _
                  have HF := Lib.hid (NumW.trans (e := .returned (.tuple #[])) HN.out ⟨rfl, hfin, hbf, hfr⟩)
                  clear hfr hfin hbf hO2 hB2 hb2 hown2 hg2 hat2 hlen)
               | (go_at_call 99
                  refine hnum.mono ?_
                  rintro e w1 ⟨rfl, h1, b1, f1⟩
                  have hlo := h1.1
                  have HN := Lib.hid (And.intro h1 (And.intro b1 f1))
                  obtain ⟨A, c, hB, hown, hc1, hc2, hA⟩ := h1.open_
                  obtain ⟨k, hk⟩ : ∃ k, k = (bs ++ enc s.size).length := ⟨_, rfl⟩
                  rw [← hk] at hB hown hc1 hA
                  have hg := hB.lt
                  have cB := hB.cell
                  have HO := Lib.hid hlo
                  have HB := Lib.hid hB
                  have HO5 := Lib.hid hown
                  have HK := Lib.hid hk
                  clear hB hown hc1 hc2 hA b1 f1 h1 hlo hk))
  go_end0
  exact HF.out
set_option maxHeartbeats 800000 in
theorem putId_any8 (w : World) (lo g a b c : Nat) (bs : List Nat) (h : WAt w lo g bs) (hl : bs.length + (enc a).length + (enc b).length + (enc c).length ≤ 1099511627776) (ha : a ≤ 9223372036854775807) (hb : b ≤ 9223372036854775807) (hc : c ≤ 9223372036854775807) :
    Calls Tryd.prog 100 #[.pointer (some ⟨g, 0, none⟩), .agg #[.int .i64 a, .int .i64 b, .int .i64 c]] w (NumW w lo g (bs ++ enc a ++ enc b ++ enc c)) := by
  have hlo := h.1
  have hgl : g < w.heap.size := by
    obtain ⟨_, _, _, _, hB, _⟩ := h
    exact hB.lt
  have hls : lo ≤ w.heap.size := by omega
  have hX : Blk (w.alloc (.cells #[.int .i64 a, .int .i64 b, .int .i64 c] 74)) w.heap.size 74 #[.int .i64 a, .int .i64 b, .int .i64 c] := Blk.new w 74 _
  have h1 := h.below ((Below.refl _ _).alloc (Nat.le_refl _) (.cells #[.int .i64 a, .int .i64 b, .int .i64 c] 74)) (Nat.le_refl _)
  obtain ⟨x, hx⟩ : ∃ x, x = w.heap.size := ⟨_, rfl⟩
  have hxg : x ≠ g := by omega
  have kept : ∀ (u v : World), Blk u x 74 #[.int .i64 a, .int .i64 b, .int .i64 c] → Fr u.heap.size (WS u g) u v → Blk v x 74 #[.int .i64 a, .int .i64 b, .int .i64 c] := fun u v hu f => hu.fr f hu.lt (fun hs => by
    rcases hs with hs | ⟨cs, hs⟩
    · exact hxg hs
    · exact hu.ne_type hs (by decide) rfl)
  have HK := Lib.hid kept
  clear kept
  go_enter Tryd.func100, Tryd.ntmps100
  go_upto_region 1 with (fail)
  refine wp_letter (fun W => WAt W lo g bs ∧ Below lo w W ∧ Fr w.heap.size (WS w g) w W ∧ Blk W w.heap.size 74 #[.int .i64 a, .int .i64 b, .int .i64 c]) ⟨h1, (Below.refl _ _).alloc hls _, (Fr.refl _ _ _).alloc (Nat.le_refl _) _, hX⟩ ?_
  rintro W ⟨hW, bW, fW, hXW⟩
  rw [← hx] at hXW ⊢
  clear hX h1 hx
  have cX := hXW.cell
  go_wp2_with (fail)
  refine (num_any8 W lo g a bs hW (by omega) ha).mono ?_
  rintro e w1 ⟨rfl, h1, b1, f1⟩
  have hX1 := HK.out _ _ hXW f1
  have N1 := NumW.trans (e := .returned (.tuple #[])) ⟨hW, bW, fW⟩ ⟨rfl, h1, b1, f1⟩
  clear cX b1 f1
  have cX := hX1.cell
  go_wp2_with (fail)
  refine (num_any8 w1 lo g b _ h1 (by simp only [List.length_append]; omega) hb).mono ?_
  rintro e w2 ⟨rfl, h2, b2, f2⟩
  have hX2 := HK.out _ _ hX1 f2
  have N2 := NumW.trans (e := .returned (.tuple #[])) N1.2 ⟨rfl, h2, b2, f2⟩
  clear cX b2 f2
  have cX := hX2.cell
  go_wp2_with (fail)
  refine (num_any8 w2 lo g c _ h2 (by simp only [List.length_append]; omega) hc).mono ?_
  rintro e w3 ⟨rfl, h3, b3, f3⟩
  have N3 := NumW.trans (e := .returned (.tuple #[])) N2.2 ⟨rfl, h3, b3, f3⟩
  go_wp2_with (fail)
  go_end0
  exact N3
end Go.Proofs.YtnlncfjibbdimaaDoor
