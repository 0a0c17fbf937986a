/-
  What Check's yes says of a command's numbers and texts; how long a number's bytes are.
-/
import Derived.Test.YtnlncfjibbdimaaDoorCheck
import Derived.Test.YtnlncfjibbdimaaDoorText8
namespace Go.Proofs.YtnlncfjibbdimaaDoor
open Go.RowKit
set_option linter.unusedSimpArgs false
set_option linter.unusedVariables false

theorem enc_len : ∀ (k n : Nat), n < 128 ^ (k + 1) → (enc n).length ≤ k + 1
  | 0, n, h => by
    have : n < 128 := by simpa using h
    rw [enc_small this]; simp
  | k + 1, n, h => by
    by_cases hn : n < 128
    · rw [enc_small hn]; simp
    · rw [enc_big hn, List.length_cons]
      have : n / 128 < 128 ^ (k + 1) := by
        rw [Nat.pow_succ] at h
        exact Nat.div_lt_of_lt_mul (by rw [Nat.mul_comm]; exact h)
      have := enc_len k (n / 128) this
      omega
theorem enc_len6 {n : Nat} (h : n ≤ 1099511627776) : (enc n).length ≤ 6 := enc_len 5 n (Nat.lt_of_le_of_lt h (by decide))

theorem eith_or {a b c : Bool} (h : eith a b c = true) : b = true ∨ c = true := by
  revert h; cases a <;> cases b <;> cases c <;> simp [eith]

theorem rises_rng : ∀ {l : List Int} {p : Int}, risesFrom p l = true → 0 ≤ p → (∀ x ∈ l, 1 ≤ x ∧ x ≤ 16) ∧ (l ≠ [] → (l.length : Int) ≤ 16 - p)
  | [], p, _, _ => ⟨by simp, fun h => absurd rfl h⟩
  | x :: r, p, h, hp => by
    simp only [risesFrom, Bool.and_eq_true, decide_eq_true_eq] at h
    obtain ⟨⟨h1, h2⟩, h3⟩ := h
    have ih := rises_rng h3 (by omega)
    refine ⟨?_, fun _ => ?_⟩
    · intro y hy
      rcases List.mem_cons.1 hy with rfl | hy
      · omega
      · exact ih.1 y hy
    · by_cases hr : r = []
      · subst hr; simp; omega
      · have := ih.2 hr
        simp only [List.length_cons]
        omega

def inG (n : Int) : Prop := 0 ≤ n ∧ n ≤ 1099511627776
theorem gid_rng {a b c : Int} (h : gid a b c = true) : inG a ∧ inG b ∧ inG c := by
  simp only [gid, tick, Bool.and_eq_true, decide_eq_true_eq] at h
  unfold inG
  omega
theorem eq3_rng {a b c : Int} (h : eq3 a b c 0 0 0 = true) : inG a ∧ inG b ∧ inG c := by
  simp only [eq3, Bool.and_eq_true, decide_eq_true_eq] at h
  unfold inG
  omega

structure Cmd.InG (c : Cmd) : Prop where
  kind : inG c.kind
  id : inG c.idn ∧ inG c.idb ∧ inG c.ids
  bucket : c.bucket.size ≤ 64
  key : c.key.size ≤ 200
  up : inG c.upn ∧ inG c.upb ∧ inG c.ups
  blob : inG c.pbn ∧ inG c.pbb ∧ inG c.pbs
  psize : inG c.psize
  etag : c.etag.size ≤ 64
  part : inG c.part
  parts : (∀ x ∈ c.parts, inG x) ∧ c.parts.length ≤ 16
  time : inG c.time
  days : inG c.days

theorem empty_size {s : ByteArray} (h : s.toList.isEmpty = true) : s.size = 0 := by
  rw [ByteArray.toList_eq] at h
  have : s.data.toList.length = 0 := by
    cases hl : s.data.toList with
    | nil => rfl
    | cons a l => rw [hl] at h; simp at h
  simpa using this

theorem chk_rng {c : Cmd} (h : chkB c = true) : c.InG := by
  unfold chkB at h
  simp only [Bool.and_eq_true] at h
  obtain ⟨⟨⟨⟨⟨⟨⟨⟨⟨h0, h1⟩, h2⟩, h3⟩, h4⟩, h5⟩, h6⟩, h7⟩, h8⟩, h9⟩ := h
  have k0 : 1 ≤ c.kind ∧ c.kind ≤ 11 := by simpa [kindOk] using h0
  have hpiece : (inG c.pbn ∧ inG c.pbb ∧ inG c.pbs) ∧ inG c.psize ∧ c.etag.size ≤ 64 := by
    rcases eith_or h5 with h | h
    · simp only [Bool.and_eq_true, pieceB, decide_eq_true_eq] at h
      obtain ⟨⟨⟨⟨a, b⟩, d⟩, _⟩, _⟩ := h
      exact ⟨gid_rng a, by unfold inG; omega, by omega⟩
    · simp only [eq5, Bool.and_eq_true, decide_eq_true_eq] at h
      obtain ⟨a, b, d⟩ := h
      refine ⟨eq3_rng a, by unfold inG; omega, ?_⟩
      have : c.etag.toList = (⟨#[]⟩ : ByteArray).toList := by simpa using d
      rw [ByteArray.toList_eq, ByteArray.toList_eq] at this
      have : c.etag.data.toList.length = 0 := by rw [this]; rfl
      have h2 : c.etag.size = 0 := by simpa using this
      omega
  refine ⟨by unfold inG; omega, gid_rng h1, ?_, ?_, ?_, hpiece.1, hpiece.2.1, hpiece.2.2, ?_, ?_, ?_, ?_⟩
  · rcases eith_or h2 with h | h
    · simp only [gbC, Bool.and_eq_true, decide_eq_true_eq] at h
      omega
    · have := empty_size h; omega
  · rcases eith_or h3 with h | h
    · simp only [gk, lenB, Bool.and_eq_true, decide_eq_true_eq] at h
      omega
    · have := empty_size h; omega
  · rcases eith_or h4 with h | h
    · exact gid_rng h
    · exact eq3_rng h
  · rcases eith_or h6 with h | h
    · simp only [Bool.and_eq_true, decide_eq_true_eq] at h
      unfold inG; omega
    · have : c.part = 0 := by simpa using h
      unfold inG; omega
  · rcases eith_or h7 with h | h
    · simp only [partsB, Bool.and_eq_true, decide_eq_true_eq] at h
      have := rises_rng h.1 (Int.le_refl 0)
      refine ⟨fun x hx => by have := this.1 x hx; unfold inG; omega, ?_⟩
      have h2 := this.2 (by intro e; rw [e] at h; simp at h)
      omega
    · have h0 : c.parts.length = 0 := by
        have := eq_of_beq h
        omega
      have : c.parts = [] := List.eq_nil_of_length_eq_zero h0
      rw [this]
      exact ⟨by simp, by simp⟩
  · rcases eith_or h8 with h | h
    · simp only [tick, decide_eq_true_eq] at h; exact h
    · have : c.time = 0 := by simpa using h
      unfold inG; omega
  · rcases eith_or h9 with h | h
    · simp only [tick, decide_eq_true_eq] at h; exact h
    · have : c.days = 0 := by simpa using h
      unfold inG; omega

end Go.Proofs.YtnlncfjibbdimaaDoor
