/-
  Two more closed facts of the program, which the cards ask.
-/
import Derived.Test.YtnlncfjibbdimaaDoorRows
import Derived.SevenTiedAt
import Derived.KernelRfl
namespace Go.Proofs.YtnlncfjibbdimaaDoor
theorem pf_mainIs : Tryd.pinned.checked.prog.mainIs = some (true, "a4a27f2a982bcfed5a7de90f8998f20b5afa7391e13f2d8864d099d57fc81cc2".toList) := by kernel_rfl
theorem pf_looks : true = Tryd.pinned.checked.prog.looks [] := by kernel_rfl
end Go.Proofs.YtnlncfjibbdimaaDoor
