/-
  A command's bytes: how many, and that they are bytes; the text that they are.
-/
import Derived.Test.YtnlncfjibbdimaaDoorRPut
import Derived.Test.YtnlncfjibbdimaaDoorRdrA
namespace Go.Proofs.YtnlncfjibbdimaaDoor
open Go.RowKit
set_option linter.unusedSimpArgs false
set_option linter.unusedVariables false

theorem enc_byte : ∀ (n : Nat), ∀ x ∈ enc n, x < 256 := by
  intro n
  induction n using Nat.strongRecOn with
  | ind n ih =>
    intro x hx
    by_cases hb : n < 128
    · rw [enc_small hb, List.mem_singleton] at hx
      omega
    · rw [enc_big hb, List.mem_cons] at hx
      rcases hx with rfl | hx
      · omega
      · exact ih (n / 128) (by omega) x hx
theorem bytesN_byte (s : ByteArray) : ∀ x ∈ bytesN s, x < 256 := by
  intro x hx
  simp only [bytesN, List.mem_map] at hx
  obtain ⟨b, _, rfl⟩ := hx
  exact b.toNat_lt
theorem putN_byte (c : Cmd) : ∀ x ∈ putN c, x < 256 := by
  intro x hx
  simp only [putN, putHead, encI, encS, List.mem_append, List.mem_flatMap] at hx
  have e := fun (n : Nat) (h : x ∈ enc n) => enc_byte n x h
  have b := fun (s : ByteArray) (h : x ∈ bytesN s) => bytesN_byte s x h
  have f : (∃ a ∈ c.parts, x ∈ enc a.toNat) → x < 256 := fun ⟨a, _, h⟩ => e _ h
  grind
theorem putN_len (c : Cmd) (hL : Lens c) (hpp : ∀ x ∈ c.parts, inG x) : (putN c).length ≤ 2000 := by
  have hf := flat_len c.parts hpp
  have h1 := hL.l
  have h2 := hL.r.2.2.2.2.2.2.2.2.2.2.2.2.2.2
  simp only [putN, putHead, encS, List.length_append]
  have e : ∀ n : Int, (encI n).length = (enc n.toNat).length := fun _ => rfl
  simp only [e]
  omega
/-- The text of a command's bytes. -/
def putS (c : Cmd) : ByteArray := ⟨((putN c).map UInt8.ofNat).toArray⟩
theorem bytesN_putS (c : Cmd) : bytesN (putS c) = putN c := by
  simp only [bytesN, putS, List.map_map]
  have h : ∀ x ∈ putN c, ((fun (b : UInt8) => b.toNat) ∘ UInt8.ofNat) x = x := fun x hx => by
    have := putN_byte c x hx
    simp [UInt8.toNat_ofNat]
    omega
  exact (List.map_congr_left h).trans (List.map_id _)
theorem putS_size (c : Cmd) : (putS c).size = (putN c).length := by rw [← bytesN_length, bytesN_putS]
theorem conv_put {W : World} {lo hi : Nat} {A : Option Addr} {n k : Nat} (c : Cmd) (hn : n = (putN c).length) (h : Rd W lo hi 1 A (putN c).length (u8s (putN c))) (hA : A = none → k = 0) : (convert 84 9 (.slice A n k)).run Tryd.prog W = .ok (.string (putS c)) W := by
  rw [hn, ← putS_size]
  exact conv_text (putS c) (by rw [putS_size, bytesN_putS]; exact h) hA

end Go.Proofs.YtnlncfjibbdimaaDoor
