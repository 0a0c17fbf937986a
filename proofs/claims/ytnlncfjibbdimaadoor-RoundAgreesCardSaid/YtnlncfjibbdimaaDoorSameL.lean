/-
  The walks of Same and Begins: two ledgers compared.
-/
import Derived.Test.YtnlncfjibbdimaaDoorSameC
import Derived.Test.YtnlncfjibbdimaaDoorCopy
import Derived.Lib.QuietBelow
namespace Go.Proofs.YtnlncfjibbdimaaDoor
open Go.RowKit
set_option linter.unusedSimpArgs false
set_option linter.unusedVariables false

section
variable {P : Program} {a : Act} {d : Option Tmp} {tp : TypeId} {ps : String} {af : Array Edge} {gd : Option (Nat × Bool)} {C : World → Prop} {K : Act → Prop}
/-- In a region that only reads: a whole row is loaded. -/
theorem law_quiet_load (ty : TypeId) (x : Operand) (b o : Nat) (cs : List Value) (hx : a.eval x = .pointer (some ⟨b, o, none⟩)) (hS : ∀ w, C w → w.rangeAt b o cs)
    {ds : TypeDesc} (hu : P.underlying ty = some ds) (hd : ds.isRow = true) (hi : (P.info? ty).map (·.size) = some cs.length)
    (h : K (a.put d (.agg cs.toArray))) : Oper.quiet P { dst := d, op := .load ty x, type := tp, pos := ps, after := af, guard := none } a C K :=
  ⟨_, fun w hw' => by
    unfold Oper.quietAt execOp
    simp only [hx, Instr.loadAt, Instr.sureAddr, Sem.run_bind, Sem.run_pure, Result.andThen_ok, run_loadVar_mid w b o ty cs ds (hS w hw') hu hd hi]
    exact ⟨rfl, rfl⟩, h⟩
end

theorem tf_iff {p : Prop} : tf p = true ↔ p := ⟨fun h => Classical.byContradiction fun hn => (by rw [tf_false hn] at h; cases h), tf_true⟩

def SameOn {α : Type} (xs ys : List α) (k : Nat) : Prop := xs.take k = ys.take k
theorem SameOn.step {α : Type} {xs ys : List α} {k : Nat} {c : α} (h : SameOn xs ys k) (h1 : xs[k]? = some c) (h2 : ys[k]? = some c) : SameOn xs ys (k + 1) := by
  unfold SameOn at *
  rw [List.take_add_one, List.take_add_one, h, h1, h2]
theorem SameOn.all {α : Type} {xs ys : List α} (h : SameOn xs ys xs.length) (hl : xs.length = ys.length) : xs = ys := by
  unfold SameOn at h
  rw [List.take_length, hl, List.take_length] at h
  exact h

set_option maxHeartbeats 800000 in
theorem same_any (w : World) (lo1 hi1 lo2 hi2 : Nat) (va vb : Value) (l m : List Cmd) (ha : LedAt w lo1 hi1 va l) (hb : LedAt w lo2 hi2 vb m) (h1 : hi1 ≤ w.heap.size) (h2 : hi2 ≤ w.heap.size) :
    Calls Tryd.prog 59 #[va, vb] w (YesNo (tf (l = m)) w) := by
  obtain ⟨A, c, rfl, hl1, hm1, _⟩ := ha.form
  obtain ⟨B, d, rfl, hl2, hm2, _⟩ := hb.form
  obtain ⟨n, hn⟩ : ∃ n, n = l.length := ⟨_, rfl⟩
  obtain ⟨q, hq⟩ : ∃ q, q = m.length := ⟨_, rfl⟩
  rw [← hn] at ha hl1 ⊢
  rw [← hq] at hb hl2 ⊢
  have hn63 : n ≤ 9223372036854775807 := by simp only [maxLen] at hm1; omega
  have hq63 : q ≤ 9223372036854775807 := by simp only [maxLen] at hm2; omega
  have HN := Lib.hid hn
  have HM := Lib.hid hq
  clear hn hq hl1 hl2 hm1 hm2
  by_cases hnm : n = q
  · subst hnm
    have hne : ((n : Int) != (n : Int)) = false := by simp
    go_enter Tryd.func59, Tryd.ntmps59
    go_wp2
    go_loopw [13] (fun i wr => ∃ k : Nat, k ≤ n ∧ i = .int .i64 k ∧ SameOn l m k ∧ Below w.heap.size w wr) (fun i _ => n - (intOf i).toNat)
    case atStart => exact ⟨0, Nat.zero_le _, rfl, by simp [SameOn], Below.refl _ _⟩
    case round =>
      obtain ⟨k, hk, rfl, hs, hbel⟩ := hrel
      by_cases hlt : k < n
      · have hk1 : k < l.length := by rw [← HN.out]; exact hlt
        have hk2 : k < m.length := by rw [← HM.out]; exact hlt
        have hlk1 := List.getElem?_eq_getElem hk1
        have hlk2 := List.getElem?_eq_getElem hk2
        obtain ⟨b1, o1, p1, rfl, hlo1, hhi1, hr1, hp1⟩ := ha.range hlk1
        obtain ⟨b2, o2, p2, rfl, hlo2, hhi2, hr2, hp2⟩ := hb.range hlk2
        obtain ⟨x, hx⟩ : ∃ x, x = l[k] := ⟨_, rfl⟩
        obtain ⟨y, hy⟩ : ∃ y, y = m[k] := ⟨_, rfl⟩
        rw [← hx] at hr1 hp1 hlk1
        rw [← hy] at hr2 hp2 hlk2
        clear hx hy
        have HX := Lib.hid hlk1
        have HY := Lib.hid hlk2
        have kr1 : ∀ w', (∃ p : Regrown, w' = Go.Sort.grow (redrawn wr p.d) p.os) → w'.rangeAt b1 (o1 + k * 18) (x.cells p1) := fun w' ⟨p, hp⟩ => by
          subst hp; exact rangeAt_fr hr1 (Fr.of_below (hbel.trans ((below_regrown wr p.d p.os).mono hbel.size)) (fun _ => False)) (by omega) (fun h => h)
        have kr2 : ∀ w', (∃ p : Regrown, w' = Go.Sort.grow (redrawn wr p.d) p.os) → w'.rangeAt b2 (o2 + k * 18) (y.cells p2) := fun w' ⟨p, hp⟩ => by
          subst hp; exact rangeAt_fr hr2 (Fr.of_below (hbel.trans ((below_regrown wr p.d p.os).mono hbel.size)) (fun _ => False)) (by omega) (fun h => h)
        have kc : ∀ dd os, Calls Tryd.prog 45 #[.agg (x.cells p1).toArray, .agg (y.cells p2).toArray] (Go.Sort.grow (redrawn wr dd) os) (YesNo (tf (x = y)) (Go.Sort.grow (redrawn wr dd) os)) := fun dd os => by
          have hB := hbel.trans ((below_regrown wr dd os).mono hbel.size)
          have hsz := hB.size
          exact sameCommand_any _ lo1 hi1 lo2 hi2 p1 p2 x y (hp1.fr (Fr.of_below hB (fun _ => False)) h1 (fun _ _ _ h => h)) (hp2.fr (Fr.of_below hB (fun _ => False)) h2 (fun _ _ _ h => h)) (by omega) (by omega)
        obtain ⟨t, ht⟩ : ∃ t, t = tf (x = y) := ⟨_, rfl⟩
        rw [← ht] at kc
        have HT := Lib.hid ht
        clear ht hr1 hr2 hp1 hp2 ha hb hlk1 hlk2
        cases t with
        | true =>
          go_wp2_with (fail)
          refine wp_region_quiet_below (by kernel_rfl) (by kernel_rfl) ?_
          repeat (first
            | (go_big_quiet_want; (with_reducible refine law_quiet_load 81 (.tmp 18) b1 (o1 + k * 18) (x.cells p1) ?_ kr1 Tryd.underlying81 ?_ ?_ ?_); rfl; rfl; exact cmd_info; go_big_quiet_on; (conv => arg 6; simp [go_sem]))
            | (go_big_quiet_want; (with_reducible refine law_quiet_load 81 (.tmp 22) b2 (o2 + k * 18) (y.cells p2) ?_ kr2 Tryd.underlying81 ?_ ?_ ?_); rfl; rfl; exact cmd_info; go_big_quiet_on; (conv => arg 6; simp [go_sem]))
            | go_big_quiet_step (first | exact Calls.regrown_of (kc _ _)))
          refine wpQuiet_nil ?_
          intro _ hw'
          obtain ⟨⟨dq, osq⟩, hw''⟩ := hw'
          subst hw''
          have hB := hbel.trans ((below_regrown wr dq osq).mono hbel.size)
          go_wp2
          go_roundw
          case rel => exact ⟨k + 1, by omega, by go_num, hs.step HX.out (by have hxy := tf_iff.1 HT.out.symm; rw [hxy]; exact HY.out), hB⟩
          case measure => simp [intOf]; omega
        | false =>
          go_wp2_with (fail)
          refine wp_region_quiet_below (by kernel_rfl) (by kernel_rfl) ?_
          repeat (first
            | (go_big_quiet_want; (with_reducible refine law_quiet_load 81 (.tmp 18) b1 (o1 + k * 18) (x.cells p1) ?_ kr1 Tryd.underlying81 ?_ ?_ ?_); rfl; rfl; exact cmd_info; go_big_quiet_on; (conv => arg 6; simp [go_sem]))
            | (go_big_quiet_want; (with_reducible refine law_quiet_load 81 (.tmp 22) b2 (o2 + k * 18) (y.cells p2) ?_ kr2 Tryd.underlying81 ?_ ?_ ?_); rfl; rfl; exact cmd_info; go_big_quiet_on; (conv => arg 6; simp [go_sem]))
            | go_big_quiet_step (first | exact Calls.regrown_of (kc _ _)))
          refine wpQuiet_nil ?_
          intro _ hw'
          obtain ⟨⟨dq, osq⟩, hw''⟩ := hw'
          subst hw''
          have hB := hbel.trans ((below_regrown wr dq osq).mono hbel.size)
          go_wp2
          go_ret
          exact ⟨ret_bool (by symm; exact tf_false (fun h => by
            have h1 := HX.out
            have h2 := HY.out
            rw [h, h2] at h1
            have h3 := HT.out
            rw [tf_true (Option.some.inj h1).symm] at h3
            cases h3)), hB⟩
      · have hkn : k = n := by omega
        subst hkn
        go_wp2
        go_ret
        have h1 := HN.out
        exact ⟨ret_bool (by symm; exact tf_true (SameOn.all (by rw [← h1]; exact hs) (by rw [← h1]; exact HM.out))), hbel⟩
  · have hne : ((n : Int) != (q : Int)) = true := by simp; omega
    have HNM := Lib.hid hnm
    clear hnm
    go_enter Tryd.func59, Tryd.ntmps59
    go_wp2
    go_ret
    exact ⟨ret_bool (by symm; exact tf_false (fun h => HNM.out (by rw [HN.out, HM.out, h]))), Below.refl _ _⟩

theorem flatten_take (k : Nat) : ∀ (rows : List (List Value)), (∀ r ∈ rows, r.length = 18) → (rows.take k).flatten = rows.flatten.take (k * 18) := by
  induction k with
  | zero => intro rows _; simp
  | succ k ih =>
    intro rows h
    cases rows with
    | nil => simp
    | cons r rows =>
      simp only [List.take_succ_cons, List.flatten_cons]
      have hr := h r (by simp)
      rw [ih rows (fun r hr => h r (by simp [hr])), List.take_append, hr, show (k + 1) * 18 - 18 = k * 18 by omega, List.take_of_length_le (i := (k + 1) * 18) (l := r) (by omega)]

theorem LedAt.take {w : World} {lo hi : Nat} {A : Option Addr} {c : Nat} {l : List Cmd} (h : LedAt w lo hi (.slice A l.length c) l) {k : Nat} (hk : k ≤ l.length) : LedAt w lo hi (.slice A k c) (l.take k) := by
  obtain ⟨A', c', rows, h1, h2, h3, h4, h5, h6⟩ := h
  obtain ⟨rfl, _, rfl⟩ : A = A' ∧ l.length = l.length ∧ c = c' := by injection h1 with a b c; exact ⟨a, b, c⟩
  have hlen : (l.take k).length = k := by simp; omega
  refine ⟨A, c, rows.take k, by rw [hlen], by omega, h3, by omega, ⟨?_, ?_⟩, ?_, ?_⟩
  · rw [flatten_take _ _ h6.len18, List.length_take, h5.1]
    omega
  · intro hn
    rw [hlen] at hn
    obtain ⟨ad, e, q1, q2, q3⟩ := h5.2 (by omega)
    refine ⟨ad, e, q1, q2, fun j u hu => q3 j u ?_⟩
    rw [flatten_take _ _ h6.len18, List.getElem?_take] at hu
    split at hu
    · exact hu
    · cases hu
  · simp [h6.1]
  · intro i r cc e1 e2
    refine h6.2 i r cc ?_ ?_
    · rw [List.getElem?_take] at e1; split at e1
      · exact e1
      · cases e1
    · rw [List.getElem?_take] at e2; split at e2
      · exact e2
      · cases e2

set_option maxHeartbeats 400000 in
theorem begins_any (w : World) (lo1 hi1 lo2 hi2 : Nat) (va vb : Value) (l m : List Cmd) (ha : LedAt w lo1 hi1 va l) (hb : LedAt w lo2 hi2 vb m) (h1 : hi1 ≤ w.heap.size) (h2 : hi2 ≤ w.heap.size) :
    Calls Tryd.prog 69 #[va, vb] w (YesNo (tf (l <+: m)) w) := by
  obtain ⟨A, c, rfl, hl1, hm1, _⟩ := ha.form
  obtain ⟨B, d, rfl, hl2, hm2, _⟩ := hb.form
  by_cases hlt : l.length ≤ m.length
  · have hb' := hb.take hlt
    have hs := same_any w lo1 hi1 lo2 hi2 _ _ l _ ha hb' h1 h2
    obtain ⟨t, ht⟩ : ∃ t, t = tf (l <+: m) := ⟨_, rfl⟩
    rw [← ht]
    have : tf (l = m.take l.length) = t := by rw [ht]; congr 1; rw [List.prefix_iff_eq_take]
    rw [this] at hs
    obtain ⟨n, hn⟩ : ∃ n, n = l.length := ⟨_, rfl⟩
    obtain ⟨q, hq⟩ : ∃ q, q = m.length := ⟨_, rfl⟩
    simp only [← hn, ← hq] at *
    have hn63 : n ≤ 9223372036854775807 := by simp only [maxLen] at hm1; omega
    have hq63 : q ≤ 9223372036854775807 := by simp only [maxLen] at hm2; omega
    clear this ht hb' ha hb hn hq
    simp only [maxLen] at hm1 hm2
    go_enter Tryd.func69, Tryd.ntmps69
    go_wp2_with (first | (go_at_call 59; refine hs.mono ?_; rintro e w1 ⟨rfl, hb2⟩))
    go_ret
    exact ⟨rfl, hb2⟩
  · have hp : tf (l <+: m) = false := tf_false (fun h => hlt h.length_le)
    rw [hp]
    obtain ⟨n, hn⟩ : ∃ n, n = l.length := ⟨_, rfl⟩
    obtain ⟨q, hq⟩ : ∃ q, q = m.length := ⟨_, rfl⟩
    simp only [← hn, ← hq] at *
    have hn63 : n ≤ 9223372036854775807 := by simp only [maxLen] at hm1; omega
    have hq63 : q ≤ 9223372036854775807 := by simp only [maxLen] at hm2; omega
    clear ha hb hn hq hp
    simp only [maxLen] at hm1 hm2
    go_enter Tryd.func69, Tryd.ntmps69
    go_wp2
    go_ret
    exact ⟨rfl, Below.refl _ _⟩

end Go.Proofs.YtnlncfjibbdimaaDoor
