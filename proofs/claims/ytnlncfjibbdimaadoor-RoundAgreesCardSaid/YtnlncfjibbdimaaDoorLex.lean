/-
  A cheap test that a drawn region may be walked in the text's order: for large regions.
-/
import Derived.Test.YtnlncfjibbdimaaDoorBase
import Derived.Lib.QuietBelow
namespace Go.Proofs.YtnlncfjibbdimaaDoor
open Go.RowKit
set_option linter.unusedSimpArgs false
set_option linter.unusedVariables false

/-- Every operation comes behind those that it waits for. -/
def readyB (md : Region.Mode) : Nat → List Oper → Bool
  | _, [] => true
  | k, o :: r => o.after.toList.all (fun e => !Region.binds md e || Nat.blt e.on k) && readyB md (k + 1) r
/-- No two operations are in each other's way, but where one waits for the other. -/
def pairsB (md : Region.Mode) (ops : Array Oper) : Nat → List Oper → Bool
  | _, [] => true
  | i, o :: r => r.all (fun p => o.apart ops p || p.after.toList.any (fun e => Region.binds md e && e.on == i)) && pairsB md ops (i + 1) r

theorem readyB_spec {md : Region.Mode} : ∀ {l : List Oper} {k : Nat}, readyB md k l = true → ∀ i o, l[i]? = some o → ∀ e ∈ o.after, Region.binds md e = true → e.on < k + i
  | o :: r, k, h, 0, p, hp, e, he, hb => by
    simp only [readyB, Bool.and_eq_true, List.all_eq_true] at h
    simp only [List.getElem?_cons_zero, Option.some.injEq] at hp
    subst hp
    have := h.1 e (by simpa using he)
    simpa [hb, Nat.blt_eq] using this
  | o :: r, k, h, i + 1, p, hp, e, he, hb => by
    simp only [readyB, Bool.and_eq_true] at h
    simp only [List.getElem?_cons_succ] at hp
    have := readyB_spec h.2 i p hp e he hb
    omega
  | [], _, _, i, p, hp, _, _, _ => by simp at hp

theorem pairsB_spec {md : Region.Mode} {ops : Array Oper} : ∀ {l : List Oper} {k : Nat}, pairsB md ops k l = true → ∀ i j oi oj, i < j → l[i]? = some oi → l[j]? = some oj →
    oi.apart ops oj = true ∨ ∃ e ∈ oj.after, Region.binds md e = true ∧ e.on = k + i
  | o :: r, k, h, 0, j + 1, oi, oj, hij, hi, hj => by
    simp only [pairsB, Bool.and_eq_true, List.all_eq_true] at h
    simp only [List.getElem?_cons_zero, Option.some.injEq] at hi
    simp only [List.getElem?_cons_succ] at hj
    subst hi
    have := h.1 oj (List.mem_of_getElem? hj)
    rw [Bool.or_eq_true] at this
    rcases this with h1 | h1
    · exact .inl h1
    · right
      obtain ⟨e, he, hb⟩ := List.any_eq_true.1 h1
      simp only [Bool.and_eq_true, beq_iff_eq] at hb
      exact ⟨e, by simpa using he, hb.1, by omega⟩
  | o :: r, k, h, i + 1, j + 1, oi, oj, hij, hi, hj => by
    simp only [pairsB, Bool.and_eq_true] at h
    simp only [List.getElem?_cons_succ] at hi hj
    rcases pairsB_spec h.2 i j oi oj (by omega) hi hj with h1 | ⟨e, h1, h2, h3⟩
    · exact .inl h1
    · exact .inr ⟨e, h1, h2, by omega⟩
  | _ :: _, _, _, _, 0, _, _, hij, _, _ => by omega
  | [], _, _, i, _, _, _, _, hi, _ => by simp at hi

theorem lexFrom_cheap {md : Region.Mode} {ops : Array Oper} (h2 : ∀ k o, ops[k]? = some o → ∀ e ∈ o.after, Region.binds md e = true → e.on < k)
    (h3 : ∀ i j oi oj, i < j → ops[i]? = some oi → ops[j]? = some oj → oi.apart ops oj = true ∨ ∃ e ∈ oj.after, Region.binds md e = true ∧ e.on = i) :
    ∀ (fuel k : Nat) (listed : Array Bool), fuel + k = ops.size → listed.size = ops.size → (∀ j, j < ops.size → listed[j]? = some (decide (j < k))) → Region.lexFrom md ops fuel k listed = true
  | 0, k, listed, hk, hs, hl => by
    simp only [Region.lexFrom, List.isEmpty_iff, Region.ready, List.filter_eq_nil_iff, List.mem_range]
    intro i hi
    have := hl i hi
    simp only [Array.getD_eq_getD_getElem?, this, Option.getD_some]
    rw [decide_eq_true (by omega)]
    simp
  | fuel + 1, k, listed, hk, hs, hl => by
    have hkn : k < ops.size := by omega
    have hok : ops[k]? = some ops[k] := Array.getElem?_eq_getElem hkn
    simp only [Region.lexFrom, Bool.and_eq_true]
    refine ⟨⟨?_, ?_⟩, ?_⟩
    · rw [List.contains_iff_mem]
      simp only [Region.ready, List.mem_filter, List.mem_range, Bool.and_eq_true]
      refine ⟨hkn, ?_, ?_⟩
      · simp only [Array.getD_eq_getD_getElem?, hl k hkn, Option.getD_some]
        rw [decide_eq_false (by omega)]
        rfl
      · rw [hok]
        simp only [Option.map_some, Option.getD_some]
        rw [Array.all_eq_true_iff_forall_mem]
        intro e he
        cases hb : Region.binds md e with
        | false => rfl
        | true =>
          have h := h2 k _ hok e he hb
          simp only [Array.getD_eq_getD_getElem?, hl e.on (by omega), Option.getD_some]
          rw [decide_eq_true h]
          rfl
    · simp only [Region.free, hok, List.all_eq_true, List.mem_range]
      intro j hj
      by_cases hjk : j = k
      · subst hjk; simp
      · by_cases hlt : j < k
        · simp only [Array.getD_eq_getD_getElem?, hl j hj, Option.getD_some]
          rw [decide_eq_true hlt]
          simp
        · have hoj : ops[j]? = some ops[j] := Array.getElem?_eq_getElem hj
          rw [hoj]
          simp only
          rcases h3 k j _ _ (by omega) hok hoj with h | ⟨e, he, hb, hon⟩
          · rw [h]; simp
          · have : (ops[j]).after.any (fun e => Region.binds md e && e.on == k) = true := by
              rw [Array.any_eq_true']
              exact ⟨e, he, by simp [hb, hon]⟩
            rw [this]; simp
    · refine lexFrom_cheap h2 h3 fuel (k + 1) _ (by omega) (by simpa using hs) (fun j hj => ?_)
      by_cases hjk : j = k
      · subst hjk
        rw [Array.getElem?_setIfInBounds_self_of_lt (by omega)]
        rw [decide_eq_true (by omega)]
      · rw [Array.getElem?_setIfInBounds_ne (by omega), hl j hj]
        congr 1
        simp only [decide_eq_decide]
        omega

theorem lexB_cheap {md : Region.Mode} {l : List Oper} (h1 : Region.noSelect l.toArray = true) (h2 : readyB md 0 l = true) (h3 : pairsB md l.toArray 0 l = true) : Region.lexB md l.toArray = true := by
  unfold Region.lexB
  rw [h1, Bool.true_and]
  refine lexFrom_cheap (fun k o hk e he hb => ?_) (fun i j oi oj hij hi hj => ?_) _ 0 _ (by simp) (by simp) (fun j hj => ?_)
  · have := readyB_spec h2 k o (by simpa using hk) e he hb
    omega
  · rcases pairsB_spec h3 i j oi oj hij (by simpa using hi) (by simpa using hj) with h | ⟨e, q1, q2, q3⟩
    · exact .inl h
    · exact .inr ⟨e, q1, q2, by omega⟩
  · rw [Array.getElem?_replicate, if_pos hj]
    simp

theorem wp_region_quiet_cheap {P : Program} {id : Nat} {Q : Exit → Act → World → Prop} {a : Act} {w : World} {l : List Oper} (hm : P.follows .mixedOrders = true) (h1 : Region.noSelect l.toArray = true) (h2 : readyB .any 0 l = true) (h3 : pairsB .any l.toArray 0 l = true)
    (h : wpQuiet P l.toArray (fun w' => ∃ p : Regrown, w' = Go.Sort.grow (redrawn w p.d) p.os) (fun a' => ∀ w', (∃ p : Regrown, w' = Go.Sort.grow (redrawn w p.d) p.os) → Q .normal a' w') l a) : (Code.region id l.toArray true).wp P Q a w :=
  wp_region_quiet_below hm (lexB_cheap h1 h2 h3) h

end Go.Proofs.YtnlncfjibbdimaaDoor
