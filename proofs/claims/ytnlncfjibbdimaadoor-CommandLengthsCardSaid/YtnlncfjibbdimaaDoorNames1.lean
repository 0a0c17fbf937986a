/-
  The walks of command.all and of strings.IndexByte.
-/
import Derived.Test.YtnlncfjibbdimaaDoorBal1
import Derived.Laws.StandIn
import Derived.Lib.IndexBytes
import Derived.Deep.DeepCutAuto
import Derived.Lib.QuietBelow
namespace Go.Proofs.YtnlncfjibbdimaaDoor
open Go.RowKit
set_option linter.unusedSimpArgs false
set_option linter.unusedVariables false

theorem run_index172 (s : ByteArray) (c : Int) (w : World) : (callFunc 172 #[.string s, .int .u8 c]).run Tryd.prog w = .ok (.value (.int .i64 (firstIdx s c.toNat.toUInt8))) w := by
  rw [run_callFunc_indexByte Tryd.func172 (by kernel_rfl) (by kernel_rfl) (by kernel_rfl) (by kernel_rfl), run_indexByte_string]
  rfl

set_option maxHeartbeats 400000 in
theorem slIndexByte_any (s : ByteArray) (c : Int) (w : World) : Calls Tryd.prog 165 #[.string s, .int .u8 c] w fun e w' => e = .returned (.int .i64 (firstIdx s c.toNat.toUInt8)) ∧ w' = w := by
  have hd := run_index172 s c
  go_enter Tryd.func165, Tryd.ntmps165
  go_wp2
  go_ret
  exact ⟨rfl, rfl⟩

set_option maxHeartbeats 400000 in
theorem indexByte_any (s : ByteArray) (c : Int) (w : World) : Calls Tryd.prog 146 #[.string s, .int .u8 c] w fun e w' => e = .returned (.int .i64 (firstIdx s c.toNat.toUInt8)) ∧ w' = w := by
  go_enter Tryd.func146, Tryd.ntmps146
  go_wp2_with (go_at_call 165; refine (slIndexByte_any _ _ _).mono ?_; rintro e w' ⟨rfl, rfl⟩)
  go_ret
  exact ⟨rfl, rfl⟩

theorem str_index (s : ByteArray) (k : Nat) (b : UInt8) (h : s.data.toList[k]? = some b) (w : World) : (Instr.index 9 (.string s) (.int .i64 k)).run Tryd.prog w = .ok (.int .u8 b.toNat) w := by
  have hk : k < s.size := (List.getElem?_eq_some_iff.1 h).1
  rw [run_index_string w 9 s .i64 k Tryd.underlying9, dif_pos ⟨by omega, by omega⟩]
  have h2 := Lib.data_getElem? s k hk
  rw [h] at h2
  injection h2 with h2
  simp [h2]

theorem indexByte_byte (s : ByteArray) (b : UInt8) (w : World) : Calls Tryd.prog 146 #[.string s, .int .u8 b.toNat] w fun e w' => e = .returned (.int .i64 (firstIdx s b)) ∧ w' = w := by
  have h := indexByte_any s b.toNat w
  have e : ((b.toNat : Int)).toNat.toUInt8 = b := by simp
  rw [e] at h
  exact h

/-- Is a byte one of a set's? -/
def inSet (t : ByteArray) (b : UInt8) : Bool := decide (0 ≤ firstIdx t b)

/-- The first k bytes are all of p. -/
theorem all_take_succ {l : List UInt8} {p : UInt8 → Bool} {k : Nat} {b : UInt8} (h : l[k]? = some b) : (l.take (k + 1)).all p = ((l.take k).all p && p b) := by
  rw [List.take_add_one, h]
  simp
theorem all_no {l : List UInt8} {p : UInt8 → Bool} {k : Nat} {b : UInt8} (h : l[k]? = some b) (hp : p b = false) : l.all p = false := by
  rw [← Bool.not_eq_true, List.all_eq_true]
  intro hc
  have := hc b (List.mem_of_getElem? h)
  rw [hp] at this
  cases this

/-- Are all bytes of a text p? -/
def allB (p : UInt8 → Bool) (s : ByteArray) : Bool := s.data.toList.all p

set_option maxRecDepth 100000 in
set_option maxHeartbeats 400000 in
theorem all_any (s t : ByteArray) (hs : s.size ≤ maxLen) (w : World) : Calls Tryd.prog 91 #[.string s, .string t] w fun e w' => e = .returned (.bool (allB (inSet t) s)) ∧ w' = w := by
  have hs' : s.size ≤ 9223372036854775807 := by simpa [maxLen] using hs
  clear hs
  obtain ⟨n, hn⟩ : ∃ n, n = s.size := ⟨_, rfl⟩
  have hln : s.data.toList.length = s.size := by simp
  have HN := Lib.hid (And.intro hn hln)
  clear hn hln
  go_enter Tryd.func91, Tryd.ntmps91
  go_wp2
  go_loop [8] (fun i => ∃ k : Nat, k ≤ s.size ∧ i = .int .i64 k ∧ (s.data.toList.take k).all (inSet t) = true) (fun i => s.size - (intOf i).toNat)
  case atStart => exact ⟨0, Nat.zero_le _, rfl, by simp⟩
  case round =>
    obtain ⟨k, hk, rfl, hall⟩ := hrel
    have HA := Lib.hid hall
    clear hall
    by_cases hlt : k < s.size
    · obtain ⟨b, hb⟩ : ∃ b, s.data.toList[k]? = some b := ⟨_, List.getElem?_eq_getElem (by rw [HN.out.2]; exact hlt)⟩
      have hidx := str_index s k b hb
      have HB := Lib.hid hb
      clear hb
      obtain ⟨f, hf⟩ : ∃ f, f = firstIdx t b := ⟨_, rfl⟩
      have hib := indexByte_byte t b
      rw [← hf] at hib
      have HF := Lib.hid hf
      clear hf
      by_cases hneg : f < 0
      · go_wp2_with (go_at_call 146; refine (hib _).mono ?_; rintro e w' ⟨rfl, rfl⟩)
        go_ret
        exact ⟨ret_bool (show false = allB _ s from (all_no HB.out (by unfold inSet; rw [← HF.out]; simp; omega)).symm), rfl⟩
      · go_wp2_with (go_at_call 146; refine (hib _).mono ?_; rintro e w' ⟨rfl, rfl⟩)
        go_round
        case rel => exact ⟨k + 1, by omega, by go_num, by rw [all_take_succ HB.out, HA.out, inSet, ← HF.out]; simp; omega⟩
        case measure => simp [intOf]; omega
    · have hkn : k = s.size := by omega
      go_wp2
      go_ret
      refine ⟨ret_bool ?_, rfl⟩
      have := HA.out
      rw [hkn, ← HN.out.2, List.take_length] at this
      exact this.symm

end Go.Proofs.YtnlncfjibbdimaaDoor
