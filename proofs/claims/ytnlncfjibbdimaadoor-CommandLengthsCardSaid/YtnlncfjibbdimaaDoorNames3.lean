/-
  The walks of the document's GoodBucket, of both GoodKey, and of both GoodId.
-/
import Derived.Test.YtnlncfjibbdimaaDoorNames2
import Derived.Deep.CutBlock
namespace Go.Proofs.YtnlncfjibbdimaaDoor
open Go.RowKit
set_option linter.unusedSimpArgs false
set_option linter.unusedVariables false

def plainB (b : UInt8) : Bool := decide ((97 ≤ (b.toNat : Int) ∧ (b.toNat : Int) ≤ 122) ∨ (48 ≤ (b.toNat : Int) ∧ (b.toNat : Int) ≤ 57))
def keyB (b : UInt8) : Bool := decide (32 ≤ (b.toNat : Int) ∧ (b.toNat : Int) ≤ 126)
def lenB (s : ByteArray) (lo hi : Nat) : Bool := decide (lo ≤ s.size) && decide (s.size ≤ hi)

set_option maxHeartbeats 400000 in
theorem plain_any (b : UInt8) (w : World) : Calls Tryd.prog 92 #[.int .u8 b.toNat] w fun e w' => e = .returned (.bool (plainB b)) ∧ w' = w := by
  obtain ⟨r, hr⟩ : ∃ r, r = plainB b := ⟨_, rfl⟩
  rw [← hr]
  unfold plainB at hr
  obtain ⟨c, hc⟩ : ∃ c : Int, c = (b.toNat : Int) := ⟨_, rfl⟩
  rw [← hc] at hr ⊢
  clear hc
  have HR := Lib.hid hr
  clear hr
  by_cases h1 : c ≥ 97
  · by_cases h2 : c ≤ 122
    · go_enter Tryd.func92, Tryd.ntmps92
      go_wp2
      go_ret
      exact ⟨ret_bool (by rw [HR.out]; simp; omega), rfl⟩
    · have h3 : c ≥ 48 := by omega
      have h4 : ¬ c ≤ 57 := by omega
      go_enter Tryd.func92, Tryd.ntmps92
      go_wp2
      go_ret
      exact ⟨ret_bool (by rw [HR.out]; simp; omega), rfl⟩
  · by_cases h3 : c ≥ 48
    · by_cases h4 : c ≤ 57
      · go_enter Tryd.func92, Tryd.ntmps92
        go_wp2
        go_ret
        exact ⟨ret_bool (by rw [HR.out]; simp; omega), rfl⟩
      · go_enter Tryd.func92, Tryd.ntmps92
        go_wp2
        go_ret
        exact ⟨ret_bool (by rw [HR.out]; simp; omega), rfl⟩
    · go_enter Tryd.func92, Tryd.ntmps92
      go_wp2
      go_ret
      exact ⟨ret_bool (by rw [HR.out]; simp; omega), rfl⟩

/-- Is byte b good at place i of a name of n bytes? -/
def okAt (n i : Nat) (b : UInt8) : Bool := plainB b || (decide (0 < i ∧ i + 1 < n) && (b == 45 || b == 46))
def upTo (s : ByteArray) (k : Nat) : Bool := lenB s 3 63 && (List.range k).all fun i => okAt s.size i (s.data.toList.getD i 0)
def gbR (s : ByteArray) : Bool := upTo s s.size
theorem upTo_succ {s : ByteArray} {k : Nat} {b : UInt8} (h : s.data.toList[k]? = some b) : upTo s (k + 1) = (upTo s k && okAt s.size k b) := by
  unfold upTo
  rw [List.range_succ, List.all_append, Bool.and_assoc]
  simp [List.getD, h]
  rw [← Array.getElem?_toList, h]
  rfl

set_option maxRecDepth 100000 in
set_option maxHeartbeats 1600000 in
theorem rgoodBucket_any (s : ByteArray) (hs : s.size ≤ maxLen) (w : World) : Calls Tryd.prog 37 #[.string s] w fun e w' => e = .returned (.bool (gbR s)) ∧ w' = w := by
  have hs' : s.size ≤ 9223372036854775807 := by simpa [maxLen] using hs
  clear hs
  have hln : s.data.toList.length = s.size := by simp
  have h0 : upTo s 0 = lenB s 3 63 := by simp [upTo]
  obtain ⟨n, hn⟩ : ∃ n, n = s.size := ⟨_, rfl⟩
  have HN := Lib.hid hn
  have HL := Lib.hid hln
  clear hln hn
  obtain ⟨r0, hr0⟩ : ∃ r, r = upTo s 0 := ⟨_, rfl⟩
  have hr1 : r0 = lenB s 3 63 := hr0.trans h0
  have HR := Lib.hid hr0
  have HR1 := Lib.hid hr1
  clear hr0 hr1 h0
  go_enter Tryd.func37, Tryd.ntmps37
  go_upto_region 1 with (fail)
  go_cut [3] (fun v wx => v = .bool r0 ∧ wx = w)
  case first =>
    by_cases h3 : (s.size : Int) ≥ 3
    · by_cases h63 : (s.size : Int) ≤ 63
      · have e : r0 = true := by rw [HR1.out]; unfold lenB; simp; omega
        subst e
        go_wp2
        go_meet
        exact ⟨rfl, rfl⟩
      · have e : r0 = false := by rw [HR1.out]; unfold lenB; simp; omega
        subst e
        go_wp2
        go_meet
        exact ⟨rfl, rfl⟩
    · have e : r0 = false := by rw [HR1.out]; unfold lenB; simp; omega
      subst e
      go_wp2
      go_meet
      exact ⟨rfl, rfl⟩
  case rest =>
    obtain ⟨rfl, rfl⟩ := hcut
    go_wp2
    go_loop [3, 4] (fun v i => ∃ k : Nat, k ≤ s.size ∧ i = .int .i64 k ∧ v = .bool (upTo s k)) (fun _ i => s.size - (intOf i).toNat)
    case atStart => exact ⟨0, Nat.zero_le _, rfl, by rw [HR.out]⟩
    case round =>
      obtain ⟨k, hk, rfl, rfl⟩ := hrel
      by_cases hlt : k < s.size
      · obtain ⟨b, hb⟩ : ∃ b, s.data.toList[k]? = some b := ⟨_, List.getElem?_eq_getElem (by rw [HL.out]; exact hlt)⟩
        have hidx := str_index s k b hb
        have hup := upTo_succ hb
        obtain ⟨u, hu⟩ : ∃ u, u = upTo s k := ⟨_, rfl⟩
        rw [← hu] at hup ⊢
        have hpl := plain_any b
        obtain ⟨p, hp⟩ : ∃ p, p = plainB b := ⟨_, rfl⟩
        rw [← hp] at hpl
        have hok : okAt s.size k b = (p || (decide (0 < k ∧ k + 1 < s.size) && (b == 45 || b == 46))) := by rw [hp]; rfl
        rw [hok] at hup
        have h45 : (b == 45) = decide ((b.toNat : Int) = 45) := by
          by_cases h : b = 45
          · subst h; rfl
          · have : ¬ (b.toNat : Int) = 45 := fun e => h (UInt8.toNat_inj.1 (by have : (45 : UInt8).toNat = 45 := rfl; omega))
            simp [h, this]
        have h46 : (b == 46) = decide ((b.toNat : Int) = 46) := by
          by_cases h : b = 46
          · subst h; rfl
          · have : ¬ (b.toNat : Int) = 46 := fun e => h (UInt8.toNat_inj.1 (by have : (46 : UInt8).toNat = 46 := rfl; omega))
            simp [h, this]
        rw [h45, h46] at hup
        obtain ⟨c, hc⟩ : ∃ c : Int, c = (b.toNat : Int) := ⟨_, rfl⟩
        rw [← hc] at hidx hpl hup
        have HU := Lib.hid hup
        clear hup hok hp hu hb hc h45 h46
        cases u with
        | false =>
          go_wp2
          go_round
          case rel => exact ⟨k + 1, by omega, by go_num, by rw [HU.out]; simp⟩
          case measure => simp [intOf]; omega
        | true =>
          cases p with
          | true =>
            go_wp2_with (go_at_call 92; refine (hpl _).mono ?_; rintro e w' ⟨rfl, rfl⟩)
            go_round
            case rel => exact ⟨k + 1, by omega, by go_num, by rw [HU.out]; simp⟩
            case measure => simp [intOf]; omega
          | false =>
            by_cases hk0 : (k : Int) > 0
            · by_cases hkn : (k : Int) < (s.size : Int) - 1
              · by_cases hc45 : c = 45
                · subst hc45
                  go_wp2_with (go_at_call 92; refine (hpl _).mono ?_; rintro e w' ⟨rfl, rfl⟩)
                  go_round
                  case rel => exact ⟨k + 1, by omega, by go_num, by rw [HU.out]; simp; omega⟩
                  case measure => simp [intOf]; omega
                · by_cases hc46 : c = 46
                  · subst hc46
                    clear hc45
                    go_wp2_with (go_at_call 92; refine (hpl _).mono ?_; rintro e w' ⟨rfl, rfl⟩)
                    go_round
                    case rel => exact ⟨k + 1, by omega, by go_num, by rw [HU.out]; simp; omega⟩
                    case measure => simp [intOf]; omega
                  · go_wp2_with (go_at_call 92; refine (hpl _).mono ?_; rintro e w' ⟨rfl, rfl⟩)
                    go_round
                    case rel => exact ⟨k + 1, by omega, by go_num, by rw [HU.out]; simp [hc45, hc46]⟩
                    case measure => simp [intOf]; omega
              · go_wp2_with (go_at_call 92; refine (hpl _).mono ?_; rintro e w' ⟨rfl, rfl⟩)
                go_round
                case rel => exact ⟨k + 1, by omega, by go_num, by rw [HU.out]; simp; omega⟩
                case measure => simp [intOf]; omega
            · go_wp2_with (go_at_call 92; refine (hpl _).mono ?_; rintro e w' ⟨rfl, rfl⟩)
              go_round
              case rel => exact ⟨k + 1, by omega, by go_num, by rw [HU.out]; simp; omega⟩
              case measure => simp [intOf]; omega
      · have hkn : k = s.size := by omega
        obtain ⟨r, hr⟩ : ∃ r, r = upTo s k := ⟨_, rfl⟩
        rw [← hr]
        have HK := Lib.hid hkn
        have HRR := Lib.hid hr
        clear hkn hr
        go_wp2
        go_ret
        exact ⟨ret_bool (by rw [HRR.out, HK.out]; rfl), rfl⟩

end Go.Proofs.YtnlncfjibbdimaaDoor
