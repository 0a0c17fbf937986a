/-
  The plain law behind BallotRises: what is promised and accepted never sinks.
-/
import Derived.Test.YtnlncfjibbdimaaDoorActs
namespace Go.Proofs.YtnlncfjibbdimaaDoor
open Go.RowKit
set_option linter.unusedSimpArgs false
set_option linter.unusedVariables false

structure RInv (node last : Int) (s : Acc) : Prop where
  good : s.Good
  nod : s.node = node
  last : last ≤ s.claimed
  low : ab s.ar s.an s.pr s.pn = false

theorem ab_no {r1 n1 r2 n2 : Int} : ab r1 n1 r2 n2 = false ↔ ¬ (r2 < r1 ∨ (r1 = r2 ∧ n2 < n1)) := by
  unfold ab
  rw [← Bool.not_eq_true]
  simp
theorem ab_yes {r1 n1 r2 n2 : Int} : ab r1 n1 r2 n2 = true ↔ (r2 < r1 ∨ (r1 = r2 ∧ n2 < n1)) := by
  unfold ab
  simp
theorem ab_refl (r n : Int) : ab r n r n = false := by rw [ab_no]; omega
theorem ab_le {r1 n1 r2 n2 r3 n3 : Int} (h : ab r1 n1 r2 n2 = false) (k : ab r2 n2 r3 n3 = false) : ab r1 n1 r3 n3 = false := by
  rw [ab_no] at *
  omega

/-- From one state to the next nothing sinks. -/
def Rise (s s' : Acc) : Prop := ab s.pr s.pn s'.pr s'.pn = false ∧ ab s.ar s.an s'.ar s'.an = false ∧ ab s'.ar s'.an s'.pr s'.pn = false

variable {node last r n : Int} {s : Acc}
theorem RInv.new_ (node : Int) : RInv node 0 (Acc.new node) := ⟨Acc.Good.new_ _, rfl, by simp [Acc.new], ab_refl _ _⟩
theorem RInv.stay (h : RInv node last s) : Rise s s := ⟨ab_refl _ _, ab_refl _ _, h.low⟩
theorem RInv.prep (h : RInv node last s) (r n : Int) : RInv node last (s.prep r n) ∧ Rise s (s.prep r n) := by
  have hg := h.good.prep r n
  revert hg
  unfold Acc.prep
  rcases refuse_cases s r n with ⟨_, h2⟩ | ⟨_, _, h2⟩ | ⟨h1, h3, h2⟩ <;> rw [h2]
  · exact fun _ => ⟨h, h.stay⟩
  · exact fun _ => ⟨h, h.stay⟩
  · exact fun hg => ⟨⟨hg, h.nod, h.last, ab_le h.low h3⟩, h3, ab_refl _ _, ab_le h.low h3⟩
theorem RInv.take (h : RInv node last s) (r n : Int) (l : List Cmd) : RInv node last (s.take r n l) ∧ Rise s (s.take r n l) := by
  have hg := h.good.take r n l
  revert hg
  unfold Acc.take
  rcases refuse_cases s r n with ⟨_, h2⟩ | ⟨_, _, h2⟩ | ⟨h1, h3, h2⟩ <;> rw [h2]
  · exact fun _ => ⟨h, h.stay⟩
  · exact fun _ => ⟨h, h.stay⟩
  · exact fun hg => ⟨⟨hg, h.nod, h.last, ab_refl _ _⟩, h3, ab_le h.low h3, ab_refl _ _⟩
theorem RInv.clm (h : RInv node last s) (r : Int) : Rise s (s.clm r) ∧ (s.top r < 1099511627776 → RInv node (s.top r + 1) (s.clm r) ∧ last < s.top r + 1 ∧ ab (s.top r + 1) s.node s.pr s.pn = true) ∧ (¬ s.top r < 1099511627776 → RInv node last (s.clm r)) := by
  have hg := h.good.clm r
  have ht := Acc.top_rng h.good r
  revert hg
  unfold Acc.clm
  split
  · rename_i h1
    refine fun hg => ⟨⟨ab_refl _ _, ab_refl _ _, h.low⟩, fun _ => ⟨⟨hg, h.nod, Int.le_refl _, h.low⟩, ?_, ?_⟩, fun h2 => absurd h1 h2⟩
    · have := h.last; omega
    · rw [ab_yes]; omega
  · rename_i h1
    exact fun hg => ⟨h.stay, fun h2 => absurd h2 h1, fun _ => h⟩

end Go.Proofs.YtnlncfjibbdimaaDoor
