/-
  Closed facts of this seat's program, each by the kernel, and the fact 'joinedFacts' of a row out of them.
-/
import Derived.Test.YtnlncfjibbdimaaDoorRows
import Derived.JoinedOf
import Derived.KernelRfl
namespace Go.Proofs.YtnlncfjibbdimaaDoor

theorem pf_laidOut : laidOutB Tryd.prog = true := by kernel_rfl
theorem pf_mapsRowed : mapsRowed Tryd.prog = true := by kernel_rfl
theorem pf_stops : (Tryd.prog.stops == []) = true := by kernel_rfl
theorem pf_stopKnobs : (Tryd.prog.stopKnobs == []) = true := by kernel_rfl
theorem pf_plainKeys : (Rows.ballotNumbersRow.plainKeys == Tryd.prog.plainKeys) = true := by kernel_rfl
theorem pf_stopsHeard : Tryd.prog.stopsHeard = true := by kernel_rfl
theorem pf_mayEnter : Tryd.prog.mayEnter = true := by kernel_rfl
theorem pf_lifted : (Rows.ballotNumbersRow.lifted == Tryd.prog.liftsFinal) = true := by kernel_rfl
theorem pf_make : (Tryd.prog.make == some Rows.ballotNumbersRow.make) = true := by kernel_rfl

end Go.Proofs.YtnlncfjibbdimaaDoor
