/-
  The two GoodBucket are one: plain.
-/
import Derived.Test.YtnlncfjibbdimaaDoorNames4
namespace Go.Proofs.YtnlncfjibbdimaaDoor
open Go.RowKit
set_option linter.unusedSimpArgs false
set_option linter.unusedVariables false

theorem byte_all {p : UInt8 → Prop} (h : ∀ n : Fin 256, p (UInt8.ofNat n.val)) (b : UInt8) : p b := by
  have := h ⟨b.toNat, b.toNat_lt⟩
  simpa using this
theorem set_letters (b : UInt8) : inSet letters b = plainB b := by
  revert b
  exact byte_all (by decide +kernel)
theorem set_lettersDot (b : UInt8) : inSet lettersDot b = (plainB b || (b == 45 || b == 46)) := by
  revert b
  exact byte_all (by decide +kernel)

theorem gb_same (s : ByteArray) : gbC s = gbR s := by
  have hn : s.data.toList.length = s.size := by simp
  by_cases h3 : 3 ≤ s.size
  · by_cases h63 : s.size ≤ 63
    · unfold gbC gbR upTo lenB
      simp only [h3, h63, decide_true, Bool.true_and]
      obtain ⟨l, hl⟩ : ∃ l, l = s.data.toList := ⟨_, rfl⟩
      have he : (ends s).data.toList = [l.getD 0 0, l.getD (s.size - 1) 0] := by
        unfold ends
        rw [ByteArray.data_append, Array.toList_append, Lib.extract_data, Lib.extract_data, ← hl]
        rw [← hl] at hn
        have e0 : l[0]? = some (l[0]'(by omega)) := List.getElem?_eq_getElem (by omega)
        have e1 : l[s.size - 1]? = some (l[s.size - 1]'(by omega)) := List.getElem?_eq_getElem (by omega)
        have d0 : (l.drop 0).take (1 - 0) = [l[0]'(by omega)] := by
          rw [List.drop_zero]
          rw [List.take_one]
          rw [List.head?_eq_getElem?, e0]; rfl
        have d1 : (l.drop (s.size - 1)).take (s.size - (s.size - 1)) = [l[s.size - 1]'(by omega)] := by
          rw [List.drop_eq_getElem_cons (by omega), show s.size - (s.size - 1) = 1 by omega, show s.size - 1 + 1 = l.length by omega, List.drop_length]
          rfl
        rw [d0, d1]
        simp [List.getD, e0, e1]
      have h1 : allB (inSet letters) (ends s) = (plainB (l.getD 0 0) && plainB (l.getD (s.size - 1) 0)) := by
        unfold allB
        rw [he]
        simp [set_letters]
      have h2 : allB (inSet lettersDot) s = l.all fun b => plainB b || (b == 45 || b == 46) := by
        unfold allB
        rw [← hl]
        congr 1
        funext b
        exact set_lettersDot b
      rw [h1, h2, ← hl]
      rw [← hl] at hn
      rw [Bool.eq_iff_iff]
      simp only [Bool.and_eq_true, List.all_eq_true, List.mem_range]
      have hget : ∀ i, i < s.size → l.getD i 0 ∈ l := fun i hi => by
        have e : l[i]? = some (l[i]'(by omega)) := List.getElem?_eq_getElem (by omega)
        simp only [List.getD, e, Option.getD_some]
        exact List.getElem_mem _
      constructor
      · rintro ⟨ha, hf, hz⟩ i hi
        unfold okAt
        by_cases i0 : i = 0
        · subst i0; rw [hf]; rfl
        · by_cases iz : i = s.size - 1
          · subst iz; rw [hz]; rfl
          · have := ha _ (hget i hi)
            rw [decide_eq_true (show 0 < i ∧ i + 1 < s.size by omega), Bool.true_and]
            exact this
      · intro ha
        refine ⟨fun b hb => ?_, ?_, ?_⟩
        · obtain ⟨i, hi, rfl⟩ := List.getElem_of_mem hb
          have := ha i (by omega)
          have e : l[i]? = some (l[i]'hi) := List.getElem?_eq_getElem hi
          simp only [List.getD, e, Option.getD_some] at this
          unfold okAt at this
          revert this
          cases plainB l[i] <;> simp
        · have := ha 0 (by omega)
          unfold okAt at this
          simpa using this
        · have := ha (s.size - 1) (by omega)
          unfold okAt at this
          rw [decide_eq_false (by omega)] at this
          simpa using this
    · simp [gbC, gbR, upTo, lenB, h63]
  · simp [gbC, gbR, upTo, lenB, h3]

end Go.Proofs.YtnlncfjibbdimaaDoor
