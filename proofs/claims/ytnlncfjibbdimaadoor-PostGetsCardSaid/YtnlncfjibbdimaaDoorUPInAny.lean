/-
  The document's InForm of every message: it asks what Check asks.
-/
import Derived.Test.YtnlncfjibbdimaaDoorUPInA
import Derived.Test.YtnlncfjibbdimaaDoorUPInB
import Derived.Test.YtnlncfjibbdimaaDoorUPInC
import Derived.Test.YtnlncfjibbdimaaDoorUPInD
import Derived.Test.YtnlncfjibbdimaaDoorUPInE
import Derived.Test.YtnlncfjibbdimaaDoorUPInF
import Derived.Test.YtnlncfjibbdimaaDoorUPInG
import Derived.Test.YtnlncfjibbdimaaDoorUPInH
import Derived.Test.YtnlncfjibbdimaaDoorUPInI
import Derived.Test.YtnlncfjibbdimaaDoorUPInJ
import Derived.Test.YtnlncfjibbdimaaDoorUPInK
import Derived.Test.YtnlncfjibbdimaaDoorUPInL
namespace Go.Proofs.YtnlncfjibbdimaaDoor
open Go.RowKit
set_option linter.unusedSimpArgs false
set_option linter.unusedVariables false
theorem pin_any (m : Msg) (w : World) (lo hi : Nat) (lv fv : Value) (h : MsgAt w lo hi lv fv m) : Calls Tryd.prog 79 #[.agg (m.cells lv fv).toArray] w (YesNo (chkM m) w) := by
  obtain ⟨lA, lc, fA, fc, rfl, rfl⟩ := h.form
  obtain ⟨kind, frm, to_, tn, tb, ts, br, bn, ar, an, led, xn, xb, xs, okm, frame⟩ := m
  by_cases k1 : kind = 1
  · exact pin_coreA kind frm to_ tn tb ts br bn ar an led xn xb xs okm frame lA fA led.length lc frame.length fc w lo hi (Lib.hid rfl) (Lib.hid rfl) _ (Lib.hid rfl) (Lib.hid h) (Lib.hid k1) (Lib.hid trivial)
  by_cases k3 : kind = 3
  · exact pin_coreB kind frm to_ tn tb ts br bn ar an led xn xb xs okm frame lA fA led.length lc frame.length fc w lo hi (Lib.hid rfl) (Lib.hid rfl) _ (Lib.hid rfl) (Lib.hid h) (Lib.hid k3) (Lib.hid trivial)
  by_cases k4 : kind = 4
  · exact pin_coreC kind frm to_ tn tb ts br bn ar an led xn xb xs okm frame lA fA led.length lc frame.length fc w lo hi (Lib.hid rfl) (Lib.hid rfl) _ (Lib.hid rfl) (Lib.hid h) (Lib.hid k4) (Lib.hid trivial)
  by_cases k5 : kind = 5
  · exact pin_coreD kind frm to_ tn tb ts br bn ar an led xn xb xs okm frame lA fA led.length lc frame.length fc w lo hi (Lib.hid rfl) (Lib.hid rfl) _ (Lib.hid rfl) (Lib.hid h) (Lib.hid k5) (Lib.hid trivial)
  by_cases k6 : kind = 6
  · exact pin_coreH kind frm to_ tn tb ts br bn ar an led xn xb xs okm frame lA fA led.length lc frame.length fc w lo hi (Lib.hid rfl) (Lib.hid rfl) _ (Lib.hid rfl) (Lib.hid h) (Lib.hid k6) (Lib.hid trivial)
  by_cases k7 : kind = 7
  · exact pin_coreI kind frm to_ tn tb ts br bn ar an led xn xb xs okm frame lA fA led.length lc frame.length fc w lo hi (Lib.hid rfl) (Lib.hid rfl) _ (Lib.hid rfl) (Lib.hid h) (Lib.hid k7) (Lib.hid trivial)
  by_cases k8 : kind = 8
  · exact pin_coreJ kind frm to_ tn tb ts br bn ar an led xn xb xs okm frame lA fA led.length lc frame.length fc w lo hi (Lib.hid rfl) (Lib.hid rfl) _ (Lib.hid rfl) (Lib.hid h) (Lib.hid k8) (Lib.hid trivial)
  by_cases k2 : kind = 2
  · cases hna : noB ar an with
    | true => exact pin_coreE kind frm to_ tn tb ts br bn ar an led xn xb xs okm frame lA fA led.length lc frame.length fc w lo hi (Lib.hid rfl) (Lib.hid rfl) _ (Lib.hid rfl) (Lib.hid h) (Lib.hid k2) (Lib.hid hna)
    | false => exact pin_coreK kind frm to_ tn tb ts br bn ar an led xn xb xs okm frame lA fA led.length lc frame.length fc w lo hi (Lib.hid rfl) (Lib.hid rfl) _ (Lib.hid rfl) (Lib.hid h) (Lib.hid k2) (Lib.hid hna)
  by_cases k9 : kind = 9
  · by_cases ho : okm = true
    · exact pin_coreF kind frm to_ tn tb ts br bn ar an led xn xb xs okm frame lA fA led.length lc frame.length fc w lo hi (Lib.hid rfl) (Lib.hid rfl) _ (Lib.hid rfl) (Lib.hid h) (Lib.hid k9) (Lib.hid ho)
    · exact pin_coreL kind frm to_ tn tb ts br bn ar an led xn xb xs okm frame lA fA led.length lc frame.length fc w lo hi (Lib.hid rfl) (Lib.hid rfl) _ (Lib.hid rfl) (Lib.hid h) (Lib.hid k9) (Lib.hid (by simpa using ho))
  exact pin_coreG kind frm to_ tn tb ts br bn ar an led xn xb xs okm frame lA fA led.length lc frame.length fc w lo hi (Lib.hid rfl) (Lib.hid rfl) _ (Lib.hid rfl) (Lib.hid h) (Lib.hid (by omega)) (Lib.hid trivial)
end Go.Proofs.YtnlncfjibbdimaaDoor
