/-
  The walks of both GoodKey and both GoodId; the two GoodBucket are one.
-/
import Derived.Test.YtnlncfjibbdimaaDoorNames3
namespace Go.Proofs.YtnlncfjibbdimaaDoor
open Go.RowKit
set_option linter.unusedSimpArgs false
set_option linter.unusedVariables false

def gk (s : ByteArray) : Bool := lenB s 1 200 && allB keyB s

set_option maxRecDepth 100000 in
set_option maxHeartbeats 800000 in
theorem goodKey_any (s : ByteArray) (hs : s.size ≤ maxLen) (w : World) : Calls Tryd.prog 38 #[.string s] w fun e w' => e = .returned (.bool (gk s)) ∧ w' = w := by
  have hs' : s.size ≤ 9223372036854775807 := by simpa [maxLen] using hs
  clear hs
  have hln : s.data.toList.length = s.size := by simp
  have HL := Lib.hid hln
  clear hln
  by_cases h1 : (s.size : Int) < 1
  · have hg : gk s = false := by unfold gk lenB; simp; omega
    go_enter Tryd.func38, Tryd.ntmps38
    go_wp2
    go_ret
    exact ⟨ret_bool (by first | rfl | rw [hg]), rfl⟩
  · by_cases h2 : (s.size : Int) > 200
    · have hg : gk s = false := by unfold gk lenB; simp; omega
      go_enter Tryd.func38, Tryd.ntmps38
      go_wp2
      go_ret
      exact ⟨ret_bool (by first | rfl | rw [hg]), rfl⟩
    · have hg : gk s = allB keyB s := by unfold gk lenB; simp; omega
      obtain ⟨r, hr⟩ : ∃ r, r = gk s := ⟨_, rfl⟩
      rw [← hr] at hg ⊢
      have HG := Lib.hid hg
      clear hr hg
      go_enter Tryd.func38, Tryd.ntmps38
      go_wp2
      go_loop [14] (fun i => ∃ k : Nat, k ≤ s.size ∧ i = .int .i64 k ∧ (s.data.toList.take k).all keyB = true) (fun i => s.size - (intOf i).toNat)
      case atStart => exact ⟨0, Nat.zero_le _, rfl, by simp⟩
      case round =>
        obtain ⟨k, hk, rfl, hall⟩ := hrel
        have HA := Lib.hid hall
        clear hall
        by_cases hlt : k < s.size
        · obtain ⟨b, hb⟩ : ∃ b, s.data.toList[k]? = some b := ⟨_, List.getElem?_eq_getElem (by rw [HL.out]; exact hlt)⟩
          have hidx := str_index s k b hb
          have hkb : keyB b = decide (32 ≤ (b.toNat : Int) ∧ (b.toNat : Int) ≤ 126) := rfl
          obtain ⟨c, hc⟩ : ∃ c : Int, c = (b.toNat : Int) := ⟨_, rfl⟩
          rw [← hc] at hidx hkb
          have HB := Lib.hid hb
          have HK := Lib.hid hkb
          clear hb hkb hc
          by_cases c1 : c < 32
          · go_wp2
            go_ret
            exact ⟨ret_bool (by rw [HG.out]; exact (all_no HB.out (by rw [HK.out]; simp; omega)).symm), rfl⟩
          · by_cases c2 : c > 126
            · go_wp2
              go_ret
              exact ⟨ret_bool (by rw [HG.out]; exact (all_no HB.out (by rw [HK.out]; simp; omega)).symm), rfl⟩
            · go_wp2
              go_round
              case rel => exact ⟨k + 1, by omega, by go_num, by rw [all_take_succ HB.out, HA.out, HK.out]; simp; omega⟩
              case measure => simp [intOf]; omega
        · have hkn : k = s.size := by omega
          have HKN := Lib.hid hkn
          clear hkn
          go_wp2
          go_ret
          refine ⟨ret_bool ?_, rfl⟩
          have := HA.out
          rw [HKN.out, ← HL.out, List.take_length] at this
          rw [HG.out]
          exact this.symm

def kUpTo (s : ByteArray) (k : Nat) : Bool := lenB s 1 200 && (s.data.toList.take k).all keyB
theorem kUpTo_succ {s : ByteArray} {k : Nat} {b : UInt8} (h : s.data.toList[k]? = some b) : kUpTo s (k + 1) = (kUpTo s k && keyB b) := by
  unfold kUpTo
  rw [all_take_succ h, Bool.and_assoc]

set_option maxRecDepth 100000 in
set_option maxHeartbeats 1600000 in
theorem rgoodKey_any (s : ByteArray) (hs : s.size ≤ maxLen) (w : World) : Calls Tryd.prog 39 #[.string s] w fun e w' => e = .returned (.bool (gk s)) ∧ w' = w := by
  have hs' : s.size ≤ 9223372036854775807 := by simpa [maxLen] using hs
  clear hs
  have hln : s.data.toList.length = s.size := by simp
  have h0 : kUpTo s 0 = lenB s 1 200 := by simp [kUpTo]
  have HL := Lib.hid hln
  clear hln
  obtain ⟨r0, hr0⟩ : ∃ r, r = kUpTo s 0 := ⟨_, rfl⟩
  have hr1 : r0 = lenB s 1 200 := hr0.trans h0
  have HR := Lib.hid hr0
  have HR1 := Lib.hid hr1
  clear hr0 hr1 h0
  go_enter Tryd.func39, Tryd.ntmps39
  go_upto_region 1 with (fail)
  go_cut [3] (fun v wx => v = .bool r0 ∧ wx = w)
  case first =>
    by_cases h3 : (s.size : Int) ≥ 1
    · by_cases h63 : (s.size : Int) ≤ 200
      · have e : r0 = true := by rw [HR1.out]; unfold lenB; simp; omega
        subst e
        go_wp2
        go_meet
        exact ⟨rfl, rfl⟩
      · have e : r0 = false := by rw [HR1.out]; unfold lenB; simp; omega
        subst e
        go_wp2
        go_meet
        exact ⟨rfl, rfl⟩
    · have e : r0 = false := by rw [HR1.out]; unfold lenB; simp; omega
      subst e
      go_wp2
      go_meet
      exact ⟨rfl, rfl⟩
  case rest =>
    obtain ⟨rfl, rfl⟩ := hcut
    go_wp2
    go_loop [3, 4] (fun v i => ∃ k : Nat, k ≤ s.size ∧ i = .int .i64 k ∧ v = .bool (kUpTo s k)) (fun _ i => s.size - (intOf i).toNat)
    case atStart => exact ⟨0, Nat.zero_le _, rfl, by rw [HR.out]⟩
    case round =>
      obtain ⟨k, hk, rfl, rfl⟩ := hrel
      by_cases hlt : k < s.size
      · obtain ⟨b, hb⟩ : ∃ b, s.data.toList[k]? = some b := ⟨_, List.getElem?_eq_getElem (by rw [HL.out]; exact hlt)⟩
        have hidx := str_index s k b hb
        have hup := kUpTo_succ hb
        obtain ⟨u, hu⟩ : ∃ u, u = kUpTo s k := ⟨_, rfl⟩
        have hkb : keyB b = decide (32 ≤ (b.toNat : Int) ∧ (b.toNat : Int) ≤ 126) := rfl
        rw [← hu, hkb] at hup
        rw [← hu]
        obtain ⟨c, hc⟩ : ∃ c : Int, c = (b.toNat : Int) := ⟨_, rfl⟩
        rw [← hc] at hidx hup
        have HU := Lib.hid hup
        clear hup hu hb hc hkb
        cases u with
        | false =>
          go_wp2
          go_round
          case rel => exact ⟨k + 1, by omega, by go_num, by rw [HU.out]; simp⟩
          case measure => simp [intOf]; omega
        | true =>
          by_cases c1 : c ≥ 32
          · by_cases c2 : c ≤ 126
            · go_wp2
              go_round
              case rel => exact ⟨k + 1, by omega, by go_num, by rw [HU.out]; simp; omega⟩
              case measure => simp [intOf]; omega
            · go_wp2
              go_round
              case rel => exact ⟨k + 1, by omega, by go_num, by rw [HU.out]; simp; omega⟩
              case measure => simp [intOf]; omega
          · go_wp2
            go_round
            case rel => exact ⟨k + 1, by omega, by go_num, by rw [HU.out]; simp; omega⟩
            case measure => simp [intOf]; omega
      · have hkn : k = s.size := by omega
        obtain ⟨r, hr⟩ : ∃ r, r = kUpTo s k := ⟨_, rfl⟩
        rw [← hr]
        have HK := Lib.hid hkn
        have HRR := Lib.hid hr
        clear hkn hr
        go_wp2
        go_ret
        exact ⟨ret_bool (by rw [HRR.out, HK.out, ← HL.out]; unfold kUpTo gk allB; rw [List.take_length]), rfl⟩

/-! ### Ids -/

def tick (n : Int) : Bool := decide (0 ≤ n ∧ n ≤ 1099511627776)
def gid (a b c : Int) : Bool := decide (0 ≤ a ∧ a < 16) && tick b && tick c

set_option maxHeartbeats 400000 in
theorem time_any (n : Int) (w : World) : Calls Tryd.prog 93 #[.int .i64 n] w fun e w' => e = .returned (.bool (tick n)) ∧ w' = w := by
  obtain ⟨r, hr⟩ : ∃ r, r = tick n := ⟨_, rfl⟩
  rw [← hr]
  unfold tick at hr
  have HR := Lib.hid hr
  clear hr
  by_cases h1 : n ≥ 0
  · by_cases h2 : n ≤ 1099511627776
    · go_enter Tryd.func93, Tryd.ntmps93
      go_wp2
      go_ret
      exact ⟨ret_bool (by rw [HR.out]; simp; omega), rfl⟩
    · go_enter Tryd.func93, Tryd.ntmps93
      go_wp2
      go_ret
      exact ⟨ret_bool (by rw [HR.out]; simp; omega), rfl⟩
  · go_enter Tryd.func93, Tryd.ntmps93
    go_wp2
    go_ret
    exact ⟨ret_bool (by rw [HR.out]; simp; omega), rfl⟩

def IdPost (a b c : Int) (w : World) (e : Ending) (w' : World) : Prop := e = .returned (.bool (gid a b c)) ∧ Below w.heap.size w w'
theorem gid_ret {a b c : Int} {r : Bool} (h : r = gid a b c) : Ending.returned (.bool r) = .returned (.bool (gid a b c)) := by rw [h]

set_option maxHeartbeats 800000 in
theorem goodId_any (a b c : Int) (w : World) : Calls Tryd.prog 40 #[.agg #[.int .i64 a, .int .i64 b, .int .i64 c]] w (IdPost a b c w) := by
  have hb : Below w.heap.size w (w.alloc (.cells #[.int .i64 a, .int .i64 b, .int .i64 c] 74)) := (Below.refl _ _).alloc (Nat.le_refl _) _
  have ht := fun n w => time_any n w
  by_cases h1 : a ≥ 0
  · by_cases h2 : a < 16
    · cases h3 : tick b with
      | true =>
        go_enter Tryd.func40, Tryd.ntmps40
        go_wp2_with (go_at_call 93; refine (ht _ _).mono ?_; rintro e w' ⟨rfl, rfl⟩)
        go_ret
        exact ⟨gid_ret (by simp [gid, h1, h2, h3]), hb⟩
      | false =>
        go_enter Tryd.func40, Tryd.ntmps40
        go_wp2_with (go_at_call 93; refine (ht _ _).mono ?_; rintro e w' ⟨rfl, rfl⟩)
        go_ret
        exact ⟨gid_ret (by simp [gid, h1, h2, h3]), hb⟩
    · go_enter Tryd.func40, Tryd.ntmps40
      go_wp2_with (fail)
      go_ret
      exact ⟨gid_ret (by unfold gid; rw [decide_eq_false (by omega)]; simp), hb⟩
  · go_enter Tryd.func40, Tryd.ntmps40
    go_wp2_with (fail)
    go_ret
    exact ⟨gid_ret (by unfold gid; rw [decide_eq_false (by omega)]; simp), hb⟩

set_option maxHeartbeats 800000 in
theorem rgoodId_any (a b c : Int) (w : World) : Calls Tryd.prog 41 #[.agg #[.int .i64 a, .int .i64 b, .int .i64 c]] w (IdPost a b c w) := by
  have hb : Below w.heap.size w (w.alloc (.cells #[.int .i64 a, .int .i64 b, .int .i64 c] 74)) := (Below.refl _ _).alloc (Nat.le_refl _) _
  by_cases h1 : a ≥ 0
  · by_cases h2 : a ≤ 15
    · by_cases h3 : b ≥ 0
      · by_cases h4 : b ≤ 1099511627776
        · by_cases h5 : c ≥ 0
          · by_cases h6 : c ≤ 1099511627776
            · go_enter Tryd.func41, Tryd.ntmps41
              go_wp2
              go_ret
              exact ⟨gid_ret (by simp [gid, tick]; omega), hb⟩
            · go_enter Tryd.func41, Tryd.ntmps41
              go_wp2
              go_ret
              exact ⟨gid_ret (by simp [gid, tick]; omega), hb⟩
          · go_enter Tryd.func41, Tryd.ntmps41
            go_wp2
            go_ret
            exact ⟨gid_ret (by simp [gid, tick]; omega), hb⟩
        · go_enter Tryd.func41, Tryd.ntmps41
          go_wp2
          go_ret
          exact ⟨gid_ret (by simp [gid, tick]; omega), hb⟩
      · go_enter Tryd.func41, Tryd.ntmps41
        go_wp2
        go_ret
        exact ⟨gid_ret (by simp [gid, tick]; omega), hb⟩
    · go_enter Tryd.func41, Tryd.ntmps41
      go_wp2
      go_ret
      exact ⟨gid_ret (by simp [gid, tick]; omega), hb⟩
  · go_enter Tryd.func41, Tryd.ntmps41
    go_wp2
    go_ret
    exact ⟨gid_ret (by simp [gid, tick]; omega), hb⟩

end Go.Proofs.YtnlncfjibbdimaaDoor
