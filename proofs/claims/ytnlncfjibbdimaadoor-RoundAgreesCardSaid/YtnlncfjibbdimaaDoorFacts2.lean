/-
  A row's fact 'joinedFacts', out of the closed facts of the program.
-/
import Derived.Test.YtnlncfjibbdimaaDoorFacts
namespace Go.Proofs.YtnlncfjibbdimaaDoor
set_option linter.unusedVariables false

/-- A row's closed facts, but for those of the program alone. -/
def rowFacts (P : Program) (f : FuncId) (fn : Func) (s : ChangeSpec) (c : OpenClaim) : Bool :=
  fn.params.all (P.readableRec ·) && namedTie P c.named s.vars &&
  (c.inPlace == P.inPlace f) && (c.unfollowed == P.unfollowed f) && (c.recurses == P.recurses f) && (c.named == P.varsNamed f)
def rowFacts2 (P : Program) (f : FuncId) (fn : Func) (s : ChangeSpec) (c : OpenClaim) : Bool :=
  (c.maps == (fn.params.toList ++ s.plain.varTypes P).any (P.mapsRec ·)) && (c.ifaces == (fn.params.toList ++ s.plain.varTypes P).any (P.ifacesRec ·)) && (c.mapsOut == P.mapsAmong fn.resultTypes.toList) &&
  (c.loops == (fn.params.toList ++ s.plain.varTypes P).any (P.loopsFrom ·)) && (c.wideKeys == (fn.params.toList ++ s.plain.varTypes P ++ fn.resultTypes.toList).any (P.wideKeysFrom ·)) &&
  s.vars.all (P.varReadable ·) && fn.resultTypes.all (fun t => P.readableRec t && decide (t < P.types.size)) && (c.ifacesOut == fn.resultTypes.toList.any (P.ifacesRec ·)) && (c.loopsOut == fn.resultTypes.toList.any (P.loopsFrom ·))
def rowFacts3 (P : Program) (f : FuncId) (fn : Func) (s : ChangeSpec) (c : OpenClaim) : Bool :=
  (c.kinds == (if c.domain.isEmpty then [] else fn.params.toList.map fun t => match P.underlying t with | some (.int k) => some k | _ => none)) && (c.pinned == c.pinnedBy) &&
  (c.veiled == (fn.params.toList ++ s.plain.varTypes P ++ fn.resultTypes.toList).any (P.veiledRec ·)) && c.veiledFits P fn.params.toList (fn.params.toList ++ s.plain.varTypes P ++ fn.resultTypes.toList)

set_option maxRecDepth 100000 in
theorem joined_of {f : FuncId} {fn : Func} {s : ChangeSpec} {c : OpenClaim} (hw : c.wf (OpenSpec.ofChange s) = true) (hs : c.stops = []) (hk : c.knobs = []) (hp : c.plainKeys = Rows.ballotNumbersRow.plainKeys) (ht : c.shortTexts.isNone = true)
    (hl : c.lifted = Rows.ballotNumbersRow.lifted) (hm : c.make = Rows.ballotNumbersRow.make) (h1 : rowFacts Tryd.prog f fn s c = true) (h2 : rowFacts2 Tryd.prog f fn s c = true) (h3 : rowFacts3 Tryd.prog f fn s c = true) :
    joinedFacts Tryd.prog f fn s c = true := by
  unfold joinedFacts
  unfold rowFacts at h1
  unfold rowFacts2 at h2
  unfold rowFacts3 at h3
  simp only [Bool.and_eq_true] at h1 h2 h3 ⊢
  obtain ⟨⟨⟨⟨⟨a1, a2⟩, a3⟩, a4⟩, a5⟩, a6⟩ := h1
  obtain ⟨⟨⟨⟨⟨⟨⟨⟨b1, b2⟩, b3⟩, b4⟩, b5⟩, b6⟩, b7⟩, b8⟩, b9⟩ := h2
  obtain ⟨⟨⟨c1, c2⟩, c3⟩, c4⟩ := h3
  have p1 : (c.stops == []) = true := by rw [hs]; rfl
  have p2 : (c.knobs == []) = true := by rw [hk]; rfl
  have p3 : (c.plainKeys == Tryd.prog.plainKeys) = true := by rw [hp]; exact pf_plainKeys
  have p4 : (c.lifted == Tryd.prog.liftsFinal) = true := by rw [hl]; exact pf_lifted
  have p5 : (Tryd.prog.make == some c.make) = true := by rw [hm]; exact pf_make
  refine ⟨⟨⟨⟨⟨⟨⟨⟨⟨⟨⟨⟨⟨⟨⟨⟨⟨⟨⟨⟨⟨⟨⟨⟨⟨⟨⟨⟨⟨⟨⟨hw, pf_laidOut⟩, pf_mapsRowed⟩, a1⟩, a2⟩, p1⟩, pf_stops⟩, p2⟩, pf_stopKnobs⟩, a3⟩, a4⟩, a5⟩, a6⟩, b1⟩, b2⟩, b3⟩, b4⟩, b5⟩, b6⟩, b7⟩, b8⟩, b9⟩, p3⟩, ht⟩, pf_stopsHeard⟩, pf_mayEnter⟩, p4⟩, p5⟩, c1⟩, c2⟩, c3⟩, c4⟩

end Go.Proofs.YtnlncfjibbdimaaDoor
