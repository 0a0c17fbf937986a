/-
  Which names, keys and ids are good: the walks of both sides (once five texts).
-/
import Derived.Test.YtnlncfjibbdimaaDoorBal1
import Derived.Laws.StandIn
import Derived.Lib.IndexBytes
import Derived.Deep.DeepCutAuto
import Derived.Lib.QuietBelow
import Derived.Deep.CutBlock
namespace Go.Proofs.YtnlncfjibbdimaaDoor
open Go.RowKit
set_option linter.unusedSimpArgs false
set_option linter.unusedVariables false

theorem run_index172 (s : ByteArray) (c : Int) (w : World) : (callFunc 172 #[.string s, .int .u8 c]).run Tryd.prog w = .ok (.value (.int .i64 (firstIdx s c.toNat.toUInt8))) w := by
  rw [run_callFunc_indexByte Tryd.func172 (by kernel_rfl) (by kernel_rfl) (by kernel_rfl) (by kernel_rfl), run_indexByte_string]
  rfl

set_option maxHeartbeats 400000 in
theorem slIndexByte_any (s : ByteArray) (c : Int) (w : World) : Calls Tryd.prog 165 #[.string s, .int .u8 c] w fun e w' => e = .returned (.int .i64 (firstIdx s c.toNat.toUInt8)) ∧ w' = w := by
  have hd := run_index172 s c
  go_enter Tryd.func165, Tryd.ntmps165
  go_wp2
  go_ret
  exact ⟨rfl, rfl⟩

set_option maxHeartbeats 400000 in
theorem indexByte_any (s : ByteArray) (c : Int) (w : World) : Calls Tryd.prog 146 #[.string s, .int .u8 c] w fun e w' => e = .returned (.int .i64 (firstIdx s c.toNat.toUInt8)) ∧ w' = w := by
  go_enter Tryd.func146, Tryd.ntmps146
  go_wp2_with (go_at_call 165; refine (slIndexByte_any _ _ _).mono ?_; rintro e w' ⟨rfl, rfl⟩)
  go_ret
  exact ⟨rfl, rfl⟩

theorem str_index (s : ByteArray) (k : Nat) (b : UInt8) (h : s.data.toList[k]? = some b) (w : World) : (Instr.index 9 (.string s) (.int .i64 k)).run Tryd.prog w = .ok (.int .u8 b.toNat) w := by
  have hk : k < s.size := (List.getElem?_eq_some_iff.1 h).1
  rw [run_index_string w 9 s .i64 k Tryd.underlying9, dif_pos ⟨by omega, by omega⟩]
  have h2 := Lib.data_getElem? s k hk
  rw [h] at h2
  injection h2 with h2
  simp [h2]

theorem indexByte_byte (s : ByteArray) (b : UInt8) (w : World) : Calls Tryd.prog 146 #[.string s, .int .u8 b.toNat] w fun e w' => e = .returned (.int .i64 (firstIdx s b)) ∧ w' = w := by
  have h := indexByte_any s b.toNat w
  have e : ((b.toNat : Int)).toNat.toUInt8 = b := by simp
  rw [e] at h
  exact h

/-- Is a byte one of a set's? -/
def inSet (t : ByteArray) (b : UInt8) : Bool := decide (0 ≤ firstIdx t b)

/-- The first k bytes are all of p. -/
theorem all_take_succ {l : List UInt8} {p : UInt8 → Bool} {k : Nat} {b : UInt8} (h : l[k]? = some b) : (l.take (k + 1)).all p = ((l.take k).all p && p b) := by
  rw [List.take_add_one, h]
  simp
theorem all_no {l : List UInt8} {p : UInt8 → Bool} {k : Nat} {b : UInt8} (h : l[k]? = some b) (hp : p b = false) : l.all p = false := by
  rw [← Bool.not_eq_true, List.all_eq_true]
  intro hc
  have := hc b (List.mem_of_getElem? h)
  rw [hp] at this
  cases this

/-- Are all bytes of a text p? -/
def allB (p : UInt8 → Bool) (s : ByteArray) : Bool := s.data.toList.all p

set_option maxRecDepth 100000 in
set_option maxHeartbeats 400000 in
theorem all_any (s t : ByteArray) (hs : s.size ≤ maxLen) (w : World) : Calls Tryd.prog 91 #[.string s, .string t] w fun e w' => e = .returned (.bool (allB (inSet t) s)) ∧ w' = w := by
  have hs' : s.size ≤ 9223372036854775807 := by simpa [maxLen] using hs
  clear hs
  obtain ⟨n, hn⟩ : ∃ n, n = s.size := ⟨_, rfl⟩
  have hln : s.data.toList.length = s.size := by simp
  have HN := Lib.hid (And.intro hn hln)
  clear hn hln
  go_enter Tryd.func91, Tryd.ntmps91
  go_wp2
  go_loop [8] (fun i => ∃ k : Nat, k ≤ s.size ∧ i = .int .i64 k ∧ (s.data.toList.take k).all (inSet t) = true) (fun i => s.size - (intOf i).toNat)
  case atStart => exact ⟨0, Nat.zero_le _, rfl, by simp⟩
  case round =>
    obtain ⟨k, hk, rfl, hall⟩ := hrel
    have HA := Lib.hid hall
    clear hall
    by_cases hlt : k < s.size
    · obtain ⟨b, hb⟩ : ∃ b, s.data.toList[k]? = some b := ⟨_, List.getElem?_eq_getElem (by rw [HN.out.2]; exact hlt)⟩
      have hidx := str_index s k b hb
      have HB := Lib.hid hb
      clear hb
      obtain ⟨f, hf⟩ : ∃ f, f = firstIdx t b := ⟨_, rfl⟩
      have hib := indexByte_byte t b
      rw [← hf] at hib
      have HF := Lib.hid hf
      clear hf
      by_cases hneg : f < 0
      · go_wp2_with (go_at_call 146; refine (hib _).mono ?_; rintro e w' ⟨rfl, rfl⟩)
        go_ret
        exact ⟨ret_bool (show false = allB _ s from (all_no HB.out (by unfold inSet; rw [← HF.out]; simp; omega)).symm), rfl⟩
      · go_wp2_with (go_at_call 146; refine (hib _).mono ?_; rintro e w' ⟨rfl, rfl⟩)
        go_round
        case rel => exact ⟨k + 1, by omega, by go_num, by rw [all_take_succ HB.out, HA.out, inSet, ← HF.out]; simp; omega⟩
        case measure => simp [intOf]; omega
    · have hkn : k = s.size := by omega
      go_wp2
      go_ret
      refine ⟨ret_bool ?_, rfl⟩
      have := HA.out
      rw [hkn, ← HN.out.2, List.take_length] at this
      exact this.symm

end Go.Proofs.YtnlncfjibbdimaaDoor

namespace Go.Proofs.YtnlncfjibbdimaaDoor
open Go.RowKit
set_option linter.unusedSimpArgs false
set_option linter.unusedVariables false

def lettersDot : ByteArray := { data := #[97, 98, 99, 100, 101, 102, 103, 104, 105, 106, 107, 108, 109, 110, 111, 112, 113, 114, 115, 116, 117, 118, 119, 120, 121, 122, 48, 49, 50, 51, 52, 53, 54, 55, 56, 57, 45, 46] }
def letters : ByteArray := { data := #[97, 98, 99, 100, 101, 102, 103, 104, 105, 106, 107, 108, 109, 110, 111, 112, 113, 114, 115, 116, 117, 118, 119, 120, 121, 122, 48, 49, 50, 51, 52, 53, 54, 55, 56, 57] }
def hexes : ByteArray := { data := #[48, 49, 50, 51, 52, 53, 54, 55, 56, 57, 97, 98, 99, 100, 101, 102] }

theorem all_below (s t : ByteArray) (hs : s.size ≤ maxLen) (w : World) : Calls Tryd.prog 91 #[.string s, .string t] w fun e w' => e = .returned (.bool (allB (inSet t) s)) ∧ Below w.heap.size w w' :=
  (all_any s t hs w).mono fun e w' ⟨h1, h2⟩ => ⟨h1, by rw [h2]; exact Below.refl _ _⟩

def ends (s : ByteArray) : ByteArray := s.extract 0 1 ++ s.extract (s.size - 1) s.size
def gbC (s : ByteArray) : Bool := decide (3 ≤ s.size) && decide (s.size ≤ 63) && allB (inSet lettersDot) s && allB (inSet letters) (ends s)

theorem ends_size (s : ByteArray) (h : 3 ≤ s.size) : (ends s).size = 2 := by
  unfold ends
  simp
  omega

set_option maxRecDepth 100000 in
set_option maxHeartbeats 400000 in
theorem goodBucket_any (s : ByteArray) (hs : s.size ≤ maxLen) (w : World) : Calls Tryd.prog 36 #[.string s] w fun e w' => e = .returned (.bool (gbC s)) ∧ Below w.heap.size w w' := by
  have hs' : s.size ≤ 9223372036854775807 := by simpa [maxLen] using hs
  by_cases h3 : 3 ≤ s.size
  · by_cases h63 : s.size ≤ 63
    · have hall := fun w => all_below s lettersDot hs w
      have hall2 := fun w => all_below (ends s) letters (by rw [ends_size s h3]; simp [maxLen]) w
      have hd1 : decide ((s.size : Int) ≥ 3) = true := by simp; omega
      have hd2 : decide ((s.size : Int) ≤ 63) = true := by simp; omega
      have e1 : (1 : Int).toNat = 1 := rfl
      cases ha : allB (inSet lettersDot) s with
      | false =>
        have hg : gbC s = false := by simp [gbC, ha]
        rw [ha] at hall
        unfold lettersDot at hall
        clear ha hall2
        go_enter Tryd.func36, Tryd.ntmps36
        go_upto_region 2 with (fail)
        refine wp_region_quiet_below (by kernel_rfl) (by kernel_rfl) ?_
        repeat (go_big_quiet_step (first | exact Calls.regrown_of (hall _)))
        refine wpQuiet_nil ?_
        intro _ hw'
        obtain ⟨⟨dq, osq⟩, hw''⟩ := hw'
        subst hw''
        go_wp2_with fail
        go_ret
        exact ⟨ret_bool (by first | rfl | rw [hg]), below_regrown _ _ _⟩
      | true =>
        have hg : gbC s = allB (inSet letters) (ends s) := by simp [gbC, ha, h3, h63]
        rw [ha] at hall
        obtain ⟨r, hr⟩ : ∃ r, r = allB (inSet letters) (ends s) := ⟨_, rfl⟩
        rw [← hr] at hg hall2
        unfold ends at hall2
        unfold lettersDot at hall
        unfold letters at hall2
        clear ha hr
        go_enter Tryd.func36, Tryd.ntmps36
        go_upto_region 2 with (fail)
        refine wp_region_quiet_below (by kernel_rfl) (by kernel_rfl) ?_
        repeat (go_big_quiet_step (first | (with_reducible exact Calls.regrown_of (hall _)) | (with_reducible exact Calls.regrown_of (hall2 _))))
        refine wpQuiet_nil ?_
        intro _ hw'
        obtain ⟨⟨dq, osq⟩, hw''⟩ := hw'
        subst hw''
        go_wp2_with fail
        go_ret
        exact ⟨ret_bool (by first | rfl | rw [hg]), below_regrown _ _ _⟩
    · have hd1 : decide ((s.size : Int) ≥ 3) = true := by simp; omega
      have hd2 : decide ((s.size : Int) ≤ 63) = false := by simp; omega
      have hg : gbC s = false := by simp [gbC, h63]
      go_enter Tryd.func36, Tryd.ntmps36
      go_upto_region 2 with (fail)
      refine wp_region_quiet_below (by kernel_rfl) (by kernel_rfl) ?_
      repeat (go_big_quiet_step (fail))
      refine wpQuiet_nil ?_
      intro _ hw'
      obtain ⟨⟨dq, osq⟩, hw''⟩ := hw'
      subst hw''
      go_wp2_with fail
      go_ret
      exact ⟨ret_bool (by first | rfl | rw [hg]), below_regrown _ _ _⟩
  · have hd1 : decide ((s.size : Int) ≥ 3) = false := by simp; omega
    have hg : gbC s = false := by simp [gbC, h3]
    go_enter Tryd.func36, Tryd.ntmps36
    go_upto_region 2 with (fail)
    refine wp_region_quiet_below (by kernel_rfl) (by kernel_rfl) ?_
    repeat (go_big_quiet_step (fail))
    refine wpQuiet_nil ?_
    intro _ hw'
    obtain ⟨⟨dq, osq⟩, hw''⟩ := hw'
    subst hw''
    go_wp2_with fail
    go_ret
    exact ⟨ret_bool (by first | rfl | rw [hg]), below_regrown _ _ _⟩

end Go.Proofs.YtnlncfjibbdimaaDoor

namespace Go.Proofs.YtnlncfjibbdimaaDoor
open Go.RowKit
set_option linter.unusedSimpArgs false
set_option linter.unusedVariables false

def plainB (b : UInt8) : Bool := decide ((97 ≤ (b.toNat : Int) ∧ (b.toNat : Int) ≤ 122) ∨ (48 ≤ (b.toNat : Int) ∧ (b.toNat : Int) ≤ 57))
def keyB (b : UInt8) : Bool := decide (32 ≤ (b.toNat : Int) ∧ (b.toNat : Int) ≤ 126)
def lenB (s : ByteArray) (lo hi : Nat) : Bool := decide (lo ≤ s.size) && decide (s.size ≤ hi)

set_option maxHeartbeats 400000 in
theorem plain_any (b : UInt8) (w : World) : Calls Tryd.prog 92 #[.int .u8 b.toNat] w fun e w' => e = .returned (.bool (plainB b)) ∧ w' = w := by
  obtain ⟨r, hr⟩ : ∃ r, r = plainB b := ⟨_, rfl⟩
  rw [← hr]
  unfold plainB at hr
  obtain ⟨c, hc⟩ : ∃ c : Int, c = (b.toNat : Int) := ⟨_, rfl⟩
  rw [← hc] at hr ⊢
  clear hc
  have HR := Lib.hid hr
  clear hr
  by_cases h1 : c ≥ 97
  · by_cases h2 : c ≤ 122
    · go_enter Tryd.func92, Tryd.ntmps92
      go_wp2
      go_ret
      exact ⟨ret_bool (by rw [HR.out]; simp; omega), rfl⟩
    · have h3 : c ≥ 48 := by omega
      have h4 : ¬ c ≤ 57 := by omega
      go_enter Tryd.func92, Tryd.ntmps92
      go_wp2
      go_ret
      exact ⟨ret_bool (by rw [HR.out]; simp; omega), rfl⟩
  · by_cases h3 : c ≥ 48
    · by_cases h4 : c ≤ 57
      · go_enter Tryd.func92, Tryd.ntmps92
        go_wp2
        go_ret
        exact ⟨ret_bool (by rw [HR.out]; simp; omega), rfl⟩
      · go_enter Tryd.func92, Tryd.ntmps92
        go_wp2
        go_ret
        exact ⟨ret_bool (by rw [HR.out]; simp; omega), rfl⟩
    · go_enter Tryd.func92, Tryd.ntmps92
      go_wp2
      go_ret
      exact ⟨ret_bool (by rw [HR.out]; simp; omega), rfl⟩

/-- Is byte b good at place i of a name of n bytes? -/
def okAt (n i : Nat) (b : UInt8) : Bool := plainB b || (decide (0 < i ∧ i + 1 < n) && (b == 45 || b == 46))
def upTo (s : ByteArray) (k : Nat) : Bool := lenB s 3 63 && (List.range k).all fun i => okAt s.size i (s.data.toList.getD i 0)
def gbR (s : ByteArray) : Bool := upTo s s.size
theorem upTo_succ {s : ByteArray} {k : Nat} {b : UInt8} (h : s.data.toList[k]? = some b) : upTo s (k + 1) = (upTo s k && okAt s.size k b) := by
  unfold upTo
  rw [List.range_succ, List.all_append, Bool.and_assoc]
  simp [List.getD, h]
  rw [← Array.getElem?_toList, h]
  rfl

set_option maxRecDepth 100000 in
set_option maxHeartbeats 1600000 in
theorem rgoodBucket_any (s : ByteArray) (hs : s.size ≤ maxLen) (w : World) : Calls Tryd.prog 37 #[.string s] w fun e w' => e = .returned (.bool (gbR s)) ∧ w' = w := by
  have hs' : s.size ≤ 9223372036854775807 := by simpa [maxLen] using hs
  clear hs
  have hln : s.data.toList.length = s.size := by simp
  have h0 : upTo s 0 = lenB s 3 63 := by simp [upTo]
  obtain ⟨n, hn⟩ : ∃ n, n = s.size := ⟨_, rfl⟩
  have HN := Lib.hid hn
  have HL := Lib.hid hln
  clear hln hn
  obtain ⟨r0, hr0⟩ : ∃ r, r = upTo s 0 := ⟨_, rfl⟩
  have hr1 : r0 = lenB s 3 63 := hr0.trans h0
  have HR := Lib.hid hr0
  have HR1 := Lib.hid hr1
  clear hr0 hr1 h0
  go_enter Tryd.func37, Tryd.ntmps37
  go_upto_region 1 with (fail)
  go_cut [3] (fun v wx => v = .bool r0 ∧ wx = w)
  case first =>
    by_cases h3 : (s.size : Int) ≥ 3
    · by_cases h63 : (s.size : Int) ≤ 63
      · have e : r0 = true := by rw [HR1.out]; unfold lenB; simp; omega
        subst e
        go_wp2
        go_meet
        exact ⟨rfl, rfl⟩
      · have e : r0 = false := by rw [HR1.out]; unfold lenB; simp; omega
        subst e
        go_wp2
        go_meet
        exact ⟨rfl, rfl⟩
    · have e : r0 = false := by rw [HR1.out]; unfold lenB; simp; omega
      subst e
      go_wp2
      go_meet
      exact ⟨rfl, rfl⟩
  case rest =>
    obtain ⟨rfl, rfl⟩ := hcut
    go_wp2
    go_loop [3, 4] (fun v i => ∃ k : Nat, k ≤ s.size ∧ i = .int .i64 k ∧ v = .bool (upTo s k)) (fun _ i => s.size - (intOf i).toNat)
    case atStart => exact ⟨0, Nat.zero_le _, rfl, by rw [HR.out]⟩
    case round =>
      obtain ⟨k, hk, rfl, rfl⟩ := hrel
      by_cases hlt : k < s.size
      · obtain ⟨b, hb⟩ : ∃ b, s.data.toList[k]? = some b := ⟨_, List.getElem?_eq_getElem (by rw [HL.out]; exact hlt)⟩
        have hidx := str_index s k b hb
        have hup := upTo_succ hb
        obtain ⟨u, hu⟩ : ∃ u, u = upTo s k := ⟨_, rfl⟩
        rw [← hu] at hup ⊢
        have hpl := plain_any b
        obtain ⟨p, hp⟩ : ∃ p, p = plainB b := ⟨_, rfl⟩
        rw [← hp] at hpl
        have hok : okAt s.size k b = (p || (decide (0 < k ∧ k + 1 < s.size) && (b == 45 || b == 46))) := by rw [hp]; rfl
        rw [hok] at hup
        have h45 : (b == 45) = decide ((b.toNat : Int) = 45) := by
          by_cases h : b = 45
          · subst h; rfl
          · have : ¬ (b.toNat : Int) = 45 := fun e => h (UInt8.toNat_inj.1 (by have : (45 : UInt8).toNat = 45 := rfl; omega))
            simp [h, this]
        have h46 : (b == 46) = decide ((b.toNat : Int) = 46) := by
          by_cases h : b = 46
          · subst h; rfl
          · have : ¬ (b.toNat : Int) = 46 := fun e => h (UInt8.toNat_inj.1 (by have : (46 : UInt8).toNat = 46 := rfl; omega))
            simp [h, this]
        rw [h45, h46] at hup
        obtain ⟨c, hc⟩ : ∃ c : Int, c = (b.toNat : Int) := ⟨_, rfl⟩
        rw [← hc] at hidx hpl hup
        have HU := Lib.hid hup
        clear hup hok hp hu hb hc h45 h46
        cases u with
        | false =>
          go_wp2
          go_round
          case rel => exact ⟨k + 1, by omega, by go_num, by rw [HU.out]; simp⟩
          case measure => simp [intOf]; omega
        | true =>
          cases p with
          | true =>
            go_wp2_with (go_at_call 92; refine (hpl _).mono ?_; rintro e w' ⟨rfl, rfl⟩)
            go_round
            case rel => exact ⟨k + 1, by omega, by go_num, by rw [HU.out]; simp⟩
            case measure => simp [intOf]; omega
          | false =>
            by_cases hk0 : (k : Int) > 0
            · by_cases hkn : (k : Int) < (s.size : Int) - 1
              · by_cases hc45 : c = 45
                · subst hc45
                  go_wp2_with (go_at_call 92; refine (hpl _).mono ?_; rintro e w' ⟨rfl, rfl⟩)
                  go_round
                  case rel => exact ⟨k + 1, by omega, by go_num, by rw [HU.out]; simp; omega⟩
                  case measure => simp [intOf]; omega
                · by_cases hc46 : c = 46
                  · subst hc46
                    clear hc45
                    go_wp2_with (go_at_call 92; refine (hpl _).mono ?_; rintro e w' ⟨rfl, rfl⟩)
                    go_round
                    case rel => exact ⟨k + 1, by omega, by go_num, by rw [HU.out]; simp; omega⟩
                    case measure => simp [intOf]; omega
                  · go_wp2_with (go_at_call 92; refine (hpl _).mono ?_; rintro e w' ⟨rfl, rfl⟩)
                    go_round
                    case rel => exact ⟨k + 1, by omega, by go_num, by rw [HU.out]; simp [hc45, hc46]⟩
                    case measure => simp [intOf]; omega
              · go_wp2_with (go_at_call 92; refine (hpl _).mono ?_; rintro e w' ⟨rfl, rfl⟩)
                go_round
                case rel => exact ⟨k + 1, by omega, by go_num, by rw [HU.out]; simp; omega⟩
                case measure => simp [intOf]; omega
            · go_wp2_with (go_at_call 92; refine (hpl _).mono ?_; rintro e w' ⟨rfl, rfl⟩)
              go_round
              case rel => exact ⟨k + 1, by omega, by go_num, by rw [HU.out]; simp; omega⟩
              case measure => simp [intOf]; omega
      · have hkn : k = s.size := by omega
        obtain ⟨r, hr⟩ : ∃ r, r = upTo s k := ⟨_, rfl⟩
        rw [← hr]
        have HK := Lib.hid hkn
        have HRR := Lib.hid hr
        clear hkn hr
        go_wp2
        go_ret
        exact ⟨ret_bool (by rw [HRR.out, HK.out]; rfl), rfl⟩

end Go.Proofs.YtnlncfjibbdimaaDoor

namespace Go.Proofs.YtnlncfjibbdimaaDoor
open Go.RowKit
set_option linter.unusedSimpArgs false
set_option linter.unusedVariables false

def gk (s : ByteArray) : Bool := lenB s 1 200 && allB keyB s

set_option maxRecDepth 100000 in
set_option maxHeartbeats 800000 in
theorem goodKey_any (s : ByteArray) (hs : s.size ≤ maxLen) (w : World) : Calls Tryd.prog 38 #[.string s] w fun e w' => e = .returned (.bool (gk s)) ∧ w' = w := by
  have hs' : s.size ≤ 9223372036854775807 := by simpa [maxLen] using hs
  clear hs
  have hln : s.data.toList.length = s.size := by simp
  have HL := Lib.hid hln
  clear hln
  by_cases h1 : (s.size : Int) < 1
  · have hg : gk s = false := by unfold gk lenB; simp; omega
    go_enter Tryd.func38, Tryd.ntmps38
    go_wp2
    go_ret
    exact ⟨ret_bool (by first | rfl | rw [hg]), rfl⟩
  · by_cases h2 : (s.size : Int) > 200
    · have hg : gk s = false := by unfold gk lenB; simp; omega
      go_enter Tryd.func38, Tryd.ntmps38
      go_wp2
      go_ret
      exact ⟨ret_bool (by first | rfl | rw [hg]), rfl⟩
    · have hg : gk s = allB keyB s := by unfold gk lenB; simp; omega
      obtain ⟨r, hr⟩ : ∃ r, r = gk s := ⟨_, rfl⟩
      rw [← hr] at hg ⊢
      have HG := Lib.hid hg
      clear hr hg
      go_enter Tryd.func38, Tryd.ntmps38
      go_wp2
      go_loop [14] (fun i => ∃ k : Nat, k ≤ s.size ∧ i = .int .i64 k ∧ (s.data.toList.take k).all keyB = true) (fun i => s.size - (intOf i).toNat)
      case atStart => exact ⟨0, Nat.zero_le _, rfl, by simp⟩
      case round =>
        obtain ⟨k, hk, rfl, hall⟩ := hrel
        have HA := Lib.hid hall
        clear hall
        by_cases hlt : k < s.size
        · obtain ⟨b, hb⟩ : ∃ b, s.data.toList[k]? = some b := ⟨_, List.getElem?_eq_getElem (by rw [HL.out]; exact hlt)⟩
          have hidx := str_index s k b hb
          have hkb : keyB b = decide (32 ≤ (b.toNat : Int) ∧ (b.toNat : Int) ≤ 126) := rfl
          obtain ⟨c, hc⟩ : ∃ c : Int, c = (b.toNat : Int) := ⟨_, rfl⟩
          rw [← hc] at hidx hkb
          have HB := Lib.hid hb
          have HK := Lib.hid hkb
          clear hb hkb hc
          by_cases c1 : c < 32
          · go_wp2
            go_ret
            exact ⟨ret_bool (by rw [HG.out]; exact (all_no HB.out (by rw [HK.out]; simp; omega)).symm), rfl⟩
          · by_cases c2 : c > 126
            · go_wp2
              go_ret
              exact ⟨ret_bool (by rw [HG.out]; exact (all_no HB.out (by rw [HK.out]; simp; omega)).symm), rfl⟩
            · go_wp2
              go_round
              case rel => exact ⟨k + 1, by omega, by go_num, by rw [all_take_succ HB.out, HA.out, HK.out]; simp; omega⟩
              case measure => simp [intOf]; omega
        · have hkn : k = s.size := by omega
          have HKN := Lib.hid hkn
          clear hkn
          go_wp2
          go_ret
          refine ⟨ret_bool ?_, rfl⟩
          have := HA.out
          rw [HKN.out, ← HL.out, List.take_length] at this
          rw [HG.out]
          exact this.symm

def kUpTo (s : ByteArray) (k : Nat) : Bool := lenB s 1 200 && (s.data.toList.take k).all keyB
theorem kUpTo_succ {s : ByteArray} {k : Nat} {b : UInt8} (h : s.data.toList[k]? = some b) : kUpTo s (k + 1) = (kUpTo s k && keyB b) := by
  unfold kUpTo
  rw [all_take_succ h, Bool.and_assoc]

set_option maxRecDepth 100000 in
set_option maxHeartbeats 1600000 in
theorem rgoodKey_any (s : ByteArray) (hs : s.size ≤ maxLen) (w : World) : Calls Tryd.prog 39 #[.string s] w fun e w' => e = .returned (.bool (gk s)) ∧ w' = w := by
  have hs' : s.size ≤ 9223372036854775807 := by simpa [maxLen] using hs
  clear hs
  have hln : s.data.toList.length = s.size := by simp
  have h0 : kUpTo s 0 = lenB s 1 200 := by simp [kUpTo]
  have HL := Lib.hid hln
  clear hln
  obtain ⟨r0, hr0⟩ : ∃ r, r = kUpTo s 0 := ⟨_, rfl⟩
  have hr1 : r0 = lenB s 1 200 := hr0.trans h0
  have HR := Lib.hid hr0
  have HR1 := Lib.hid hr1
  clear hr0 hr1 h0
  go_enter Tryd.func39, Tryd.ntmps39
  go_upto_region 1 with (fail)
  go_cut [3] (fun v wx => v = .bool r0 ∧ wx = w)
  case first =>
    by_cases h3 : (s.size : Int) ≥ 1
    · by_cases h63 : (s.size : Int) ≤ 200
      · have e : r0 = true := by rw [HR1.out]; unfold lenB; simp; omega
        subst e
        go_wp2
        go_meet
        exact ⟨rfl, rfl⟩
      · have e : r0 = false := by rw [HR1.out]; unfold lenB; simp; omega
        subst e
        go_wp2
        go_meet
        exact ⟨rfl, rfl⟩
    · have e : r0 = false := by rw [HR1.out]; unfold lenB; simp; omega
      subst e
      go_wp2
      go_meet
      exact ⟨rfl, rfl⟩
  case rest =>
    obtain ⟨rfl, rfl⟩ := hcut
    go_wp2
    go_loop [3, 4] (fun v i => ∃ k : Nat, k ≤ s.size ∧ i = .int .i64 k ∧ v = .bool (kUpTo s k)) (fun _ i => s.size - (intOf i).toNat)
    case atStart => exact ⟨0, Nat.zero_le _, rfl, by rw [HR.out]⟩
    case round =>
      obtain ⟨k, hk, rfl, rfl⟩ := hrel
      by_cases hlt : k < s.size
      · obtain ⟨b, hb⟩ : ∃ b, s.data.toList[k]? = some b := ⟨_, List.getElem?_eq_getElem (by rw [HL.out]; exact hlt)⟩
        have hidx := str_index s k b hb
        have hup := kUpTo_succ hb
        obtain ⟨u, hu⟩ : ∃ u, u = kUpTo s k := ⟨_, rfl⟩
        have hkb : keyB b = decide (32 ≤ (b.toNat : Int) ∧ (b.toNat : Int) ≤ 126) := rfl
        rw [← hu, hkb] at hup
        rw [← hu]
        obtain ⟨c, hc⟩ : ∃ c : Int, c = (b.toNat : Int) := ⟨_, rfl⟩
        rw [← hc] at hidx hup
        have HU := Lib.hid hup
        clear hup hu hb hc hkb
        cases u with
        | false =>
          go_wp2
          go_round
          case rel => exact ⟨k + 1, by omega, by go_num, by rw [HU.out]; simp⟩
          case measure => simp [intOf]; omega
        | true =>
          by_cases c1 : c ≥ 32
          · by_cases c2 : c ≤ 126
            · go_wp2
              go_round
              case rel => exact ⟨k + 1, by omega, by go_num, by rw [HU.out]; simp; omega⟩
              case measure => simp [intOf]; omega
            · go_wp2
              go_round
              case rel => exact ⟨k + 1, by omega, by go_num, by rw [HU.out]; simp; omega⟩
              case measure => simp [intOf]; omega
          · go_wp2
            go_round
            case rel => exact ⟨k + 1, by omega, by go_num, by rw [HU.out]; simp; omega⟩
            case measure => simp [intOf]; omega
      · have hkn : k = s.size := by omega
        obtain ⟨r, hr⟩ : ∃ r, r = kUpTo s k := ⟨_, rfl⟩
        rw [← hr]
        have HK := Lib.hid hkn
        have HRR := Lib.hid hr
        clear hkn hr
        go_wp2
        go_ret
        exact ⟨ret_bool (by rw [HRR.out, HK.out, ← HL.out]; unfold kUpTo gk allB; rw [List.take_length]), rfl⟩

/-! ### Ids -/

def tick (n : Int) : Bool := decide (0 ≤ n ∧ n ≤ 1099511627776)
def gid (a b c : Int) : Bool := decide (0 ≤ a ∧ a < 16) && tick b && tick c

set_option maxHeartbeats 400000 in
theorem time_any (n : Int) (w : World) : Calls Tryd.prog 93 #[.int .i64 n] w fun e w' => e = .returned (.bool (tick n)) ∧ w' = w := by
  obtain ⟨r, hr⟩ : ∃ r, r = tick n := ⟨_, rfl⟩
  rw [← hr]
  unfold tick at hr
  have HR := Lib.hid hr
  clear hr
  by_cases h1 : n ≥ 0
  · by_cases h2 : n ≤ 1099511627776
    · go_enter Tryd.func93, Tryd.ntmps93
      go_wp2
      go_ret
      exact ⟨ret_bool (by rw [HR.out]; simp; omega), rfl⟩
    · go_enter Tryd.func93, Tryd.ntmps93
      go_wp2
      go_ret
      exact ⟨ret_bool (by rw [HR.out]; simp; omega), rfl⟩
  · go_enter Tryd.func93, Tryd.ntmps93
    go_wp2
    go_ret
    exact ⟨ret_bool (by rw [HR.out]; simp; omega), rfl⟩

def IdPost (a b c : Int) (w : World) (e : Ending) (w' : World) : Prop := e = .returned (.bool (gid a b c)) ∧ Below w.heap.size w w'
theorem gid_ret {a b c : Int} {r : Bool} (h : r = gid a b c) : Ending.returned (.bool r) = .returned (.bool (gid a b c)) := by rw [h]

set_option maxHeartbeats 800000 in
theorem goodId_any (a b c : Int) (w : World) : Calls Tryd.prog 40 #[.agg #[.int .i64 a, .int .i64 b, .int .i64 c]] w (IdPost a b c w) := by
  have hb : Below w.heap.size w (w.alloc (.cells #[.int .i64 a, .int .i64 b, .int .i64 c] 74)) := (Below.refl _ _).alloc (Nat.le_refl _) _
  have ht := fun n w => time_any n w
  by_cases h1 : a ≥ 0
  · by_cases h2 : a < 16
    · cases h3 : tick b with
      | true =>
        go_enter Tryd.func40, Tryd.ntmps40
        go_wp2_with (go_at_call 93; refine (ht _ _).mono ?_; rintro e w' ⟨rfl, rfl⟩)
        go_ret
        exact ⟨gid_ret (by simp [gid, h1, h2, h3]), hb⟩
      | false =>
        go_enter Tryd.func40, Tryd.ntmps40
        go_wp2_with (go_at_call 93; refine (ht _ _).mono ?_; rintro e w' ⟨rfl, rfl⟩)
        go_ret
        exact ⟨gid_ret (by simp [gid, h1, h2, h3]), hb⟩
    · go_enter Tryd.func40, Tryd.ntmps40
      go_wp2_with (fail)
      go_ret
      exact ⟨gid_ret (by unfold gid; rw [decide_eq_false (by omega)]; simp), hb⟩
  · go_enter Tryd.func40, Tryd.ntmps40
    go_wp2_with (fail)
    go_ret
    exact ⟨gid_ret (by unfold gid; rw [decide_eq_false (by omega)]; simp), hb⟩

set_option maxHeartbeats 800000 in
theorem rgoodId_any (a b c : Int) (w : World) : Calls Tryd.prog 41 #[.agg #[.int .i64 a, .int .i64 b, .int .i64 c]] w (IdPost a b c w) := by
  have hb : Below w.heap.size w (w.alloc (.cells #[.int .i64 a, .int .i64 b, .int .i64 c] 74)) := (Below.refl _ _).alloc (Nat.le_refl _) _
  by_cases h1 : a ≥ 0
  · by_cases h2 : a ≤ 15
    · by_cases h3 : b ≥ 0
      · by_cases h4 : b ≤ 1099511627776
        · by_cases h5 : c ≥ 0
          · by_cases h6 : c ≤ 1099511627776
            · go_enter Tryd.func41, Tryd.ntmps41
              go_wp2
              go_ret
              exact ⟨gid_ret (by simp [gid, tick]; omega), hb⟩
            · go_enter Tryd.func41, Tryd.ntmps41
              go_wp2
              go_ret
              exact ⟨gid_ret (by simp [gid, tick]; omega), hb⟩
          · go_enter Tryd.func41, Tryd.ntmps41
            go_wp2
            go_ret
            exact ⟨gid_ret (by simp [gid, tick]; omega), hb⟩
        · go_enter Tryd.func41, Tryd.ntmps41
          go_wp2
          go_ret
          exact ⟨gid_ret (by simp [gid, tick]; omega), hb⟩
      · go_enter Tryd.func41, Tryd.ntmps41
        go_wp2
        go_ret
        exact ⟨gid_ret (by simp [gid, tick]; omega), hb⟩
    · go_enter Tryd.func41, Tryd.ntmps41
      go_wp2
      go_ret
      exact ⟨gid_ret (by simp [gid, tick]; omega), hb⟩
  · go_enter Tryd.func41, Tryd.ntmps41
    go_wp2
    go_ret
    exact ⟨gid_ret (by simp [gid, tick]; omega), hb⟩

end Go.Proofs.YtnlncfjibbdimaaDoor

namespace Go.Proofs.YtnlncfjibbdimaaDoor
open Go.RowKit
set_option linter.unusedSimpArgs false
set_option linter.unusedVariables false

theorem byte_all {p : UInt8 → Prop} (h : ∀ n : Fin 256, p (UInt8.ofNat n.val)) (b : UInt8) : p b := by
  have := h ⟨b.toNat, b.toNat_lt⟩
  simpa using this
theorem set_letters (b : UInt8) : inSet letters b = plainB b := by
  revert b
  exact byte_all (by decide +kernel)
theorem set_lettersDot (b : UInt8) : inSet lettersDot b = (plainB b || (b == 45 || b == 46)) := by
  revert b
  exact byte_all (by decide +kernel)

theorem gb_same (s : ByteArray) : gbC s = gbR s := by
  have hn : s.data.toList.length = s.size := by simp
  by_cases h3 : 3 ≤ s.size
  · by_cases h63 : s.size ≤ 63
    · unfold gbC gbR upTo lenB
      simp only [h3, h63, decide_true, Bool.true_and]
      obtain ⟨l, hl⟩ : ∃ l, l = s.data.toList := ⟨_, rfl⟩
      have he : (ends s).data.toList = [l.getD 0 0, l.getD (s.size - 1) 0] := by
        unfold ends
        rw [ByteArray.data_append, Array.toList_append, Lib.extract_data, Lib.extract_data, ← hl]
        rw [← hl] at hn
        have e0 : l[0]? = some (l[0]'(by omega)) := List.getElem?_eq_getElem (by omega)
        have e1 : l[s.size - 1]? = some (l[s.size - 1]'(by omega)) := List.getElem?_eq_getElem (by omega)
        have d0 : (l.drop 0).take (1 - 0) = [l[0]'(by omega)] := by
          rw [List.drop_zero]
          rw [List.take_one]
          rw [List.head?_eq_getElem?, e0]; rfl
        have d1 : (l.drop (s.size - 1)).take (s.size - (s.size - 1)) = [l[s.size - 1]'(by omega)] := by
          rw [List.drop_eq_getElem_cons (by omega), show s.size - (s.size - 1) = 1 by omega, show s.size - 1 + 1 = l.length by omega, List.drop_length]
          rfl
        rw [d0, d1]
        simp [List.getD, e0, e1]
      have h1 : allB (inSet letters) (ends s) = (plainB (l.getD 0 0) && plainB (l.getD (s.size - 1) 0)) := by
        unfold allB
        rw [he]
        simp [set_letters]
      have h2 : allB (inSet lettersDot) s = l.all fun b => plainB b || (b == 45 || b == 46) := by
        unfold allB
        rw [← hl]
        congr 1
        funext b
        exact set_lettersDot b
      rw [h1, h2, ← hl]
      rw [← hl] at hn
      rw [Bool.eq_iff_iff]
      simp only [Bool.and_eq_true, List.all_eq_true, List.mem_range]
      have hget : ∀ i, i < s.size → l.getD i 0 ∈ l := fun i hi => by
        have e : l[i]? = some (l[i]'(by omega)) := List.getElem?_eq_getElem (by omega)
        simp only [List.getD, e, Option.getD_some]
        exact List.getElem_mem _
      constructor
      · rintro ⟨ha, hf, hz⟩ i hi
        unfold okAt
        by_cases i0 : i = 0
        · subst i0; rw [hf]; rfl
        · by_cases iz : i = s.size - 1
          · subst iz; rw [hz]; rfl
          · have := ha _ (hget i hi)
            rw [decide_eq_true (show 0 < i ∧ i + 1 < s.size by omega), Bool.true_and]
            exact this
      · intro ha
        refine ⟨fun b hb => ?_, ?_, ?_⟩
        · obtain ⟨i, hi, rfl⟩ := List.getElem_of_mem hb
          have := ha i (by omega)
          have e : l[i]? = some (l[i]'hi) := List.getElem?_eq_getElem hi
          simp only [List.getD, e, Option.getD_some] at this
          unfold okAt at this
          revert this
          cases plainB l[i] <;> simp
        · have := ha 0 (by omega)
          unfold okAt at this
          simpa using this
        · have := ha (s.size - 1) (by omega)
          unfold okAt at this
          rw [decide_eq_false (by omega)] at this
          simpa using this
    · simp [gbC, gbR, upTo, lenB, h63]
  · simp [gbC, gbR, upTo, lenB, h3]

end Go.Proofs.YtnlncfjibbdimaaDoor
