/-
  The document's Get of a message: the region that builds it, by itself.
-/
import Derived.Deep.RegionHeld3
import Derived.Test.YtnlncfjibbdimaaDoorUPWire
import Derived.Test.YtnlncfjibbdimaaDoorUPCheck
import Derived.Test.YtnlncfjibbdimaaDoorURRead
import Derived.Test.YtnlncfjibbdimaaDoorURefWire
import Derived.Test.YtnlncfjibbdimaaDoorUWireX
import Derived.Test.YtnlncfjibbdimaaDoorUSameL
import Derived.Test.YtnlncfjibbdimaaDoorUCheck
import Derived.Test.YtnlncfjibbdimaaDoorUPiece
import Derived.Test.YtnlncfjibbdimaaDoorUKind
import Derived.Test.YtnlncfjibbdimaaDoorULex
import Derived.Test.YtnlncfjibbdimaaDoorUNames5
import Derived.Test.YtnlncfjibbdimaaDoorUBase
import Derived.Test.YtnlncfjibbdimaaDoorULaws
import Derived.Test.YtnlncfjibbdimaaDoorUSameC
import Derived.Test.YtnlncfjibbdimaaDoorURdrA
import Derived.Test.YtnlncfjibbdimaaDoorURdX
import Derived.Test.YtnlncfjibbdimaaDoorUReadX
import Derived.Test.YtnlncfjibbdimaaDoorUGetZ
import Derived.Test.YtnlncfjibbdimaaDoorURdr6
import Derived.Test.YtnlncfjibbdimaaDoorURdr8
import Derived.Test.YtnlncfjibbdimaaDoorUDGet
import Derived.Test.YtnlncfjibbdimaaDoorUInLaw
import Derived.Test.YtnlncfjibbdimaaDoorUInForm
import Derived.Test.YtnlncfjibbdimaaDoorWGetsW
import Derived.Test.YtnlncfjibbdimaaDoorWRefX
import Derived.Test.YtnlncfjibbdimaaDoorWDGet
namespace Go.Proofs.YtnlncfjibbdimaaDoor
open Go.RowKit
set_option linter.unusedSimpArgs false
set_option linter.unusedVariables false
noncomputable def reg82 (n : Nat) : Code := (((Tryd.f82.body).bind (findRegion n)).getD .skip)
set_option maxRecDepth 100000 in
set_option maxHeartbeats 3200000 in
theorem rm_reg16 (u0 u1 u2 u3 u4 u5 u6 u8 u9 u10 u11 u13 u15 u16 u17 u18 u19 u20 u21 u22 u23 u24 u25 u26 u27 u28 u29 u30 u31 u32 u33 u34 u35 u36 u37 u38 u39 u40 u41 u42 u43 u44 u45 u46 u47 u48 u49 u50 u51 u52 u53 u54 u55 u56 u57 u58 u59 u60 u61 u62 u63 u64 u65 u66 u67 u68 u69 u70 u71 u72 u73 u74 u75 u76 u77 u78 u79 u80 u81 u82 u83 u84 u85 u86 u87 u88 u89 u90 u91 u92 u93 u94 u95 u96 u97 u98 u99 u100 u101 u102 u103 u104 u105 u106 u107 u108 u109 u110 u111 u112 u113 u114 u115 u116 u117 u118 u119 u120 u121 u122 u123 u124 u125 u126 u127 u128 u129 u130 u131 u132 u133 u134 u135 u136 u137 u138 u139 u140 : Value) (b c7 : Nat) (A5 A6 : Option Addr) (nv5 c5 nf c6 : Nat) (n0 n1 n2 n3 n4 n5 n6 n7 n8 n9 n10 n11 n12 n13 : Int) (W : World) {K : Act → World → Prop} {Q : Exit → Act → World → Prop} (hb : b < W.heap.size)
    (cY : ∀ i : Nat, i < 14 → W.cell? ⟨b, i, none⟩ = (#[.int .i64 n0, .int .i64 n1, .int .i64 n2, .int .i64 n3, .int .i64 n4, .int .i64 n5, .int .i64 n6, .int .i64 n7, .int .i64 n8, .int .i64 n9, .int .i64 n10, .int .i64 n11, .int .i64 n12, .int .i64 n13] : Array Value)[i]?)
    (hK : ∀ (v82 v83 v84 v85 v86 v87 v88 v89 v90 v91 v92 v93 v94 v95 v96 v97 v98 v99 v100 v101 v102 v103 v104 v105 v106 v107 v108 v109 v110 v111 v112 v113 v114 v115 v116 v117 v118 v119 v120 v121 v122 v123 v124 v125 v126 v127 v128 v129 v130 v131 : Value) (W' : World), Blk W' W.heap.size 143 #[.int .i64 n0, .int .i64 n1, .int .i64 n2, .int .i64 n3, .int .i64 n4, .int .i64 n5, .int .i64 n6, .int .i64 n7, .int .i64 n8, .int .i64 n9, .slice A5 nv5 c5, .int .i64 n10, .int .i64 n11, .int .i64 n12, .bool (n13 == 1), .slice A6 nf c6] → Below W.heap.size W W' → K ⟨#[u0, u1, u2, u3, u4, u5, u6, .slice (some ⟨b, 0, none⟩) 14 c7, u8, u9, u10, u11, .slice A6 nf c6, u13, .slice A5 nv5 c5, .pointer (some ⟨W.heap.size, 0, none⟩), u16, u17, u18, u19, u20, u21, u22, u23, u24, u25, u26, u27, u28, u29, u30, u31, u32, u33, u34, u35, u36, u37, u38, u39, u40, u41, u42, u43, u44, u45, u46, u47, u48, u49, u50, u51, u52, u53, u54, u55, u56, u57, u58, u59, u60, u61, u62, u63, u64, u65, u66, u67, u68, u69, u70, u71, u72, u73, u74, u75, u76, u77, u78, u79, u80, u81, v82, v83, v84, v85, v86, v87, v88, v89, v90, v91, v92, v93, v94, v95, v96, v97, v98, v99, v100, v101, v102, v103, v104, v105, v106, v107, v108, v109, v110, v111, v112, v113, v114, v115, v116, v117, v118, v119, v120, v121, v122, v123, v124, v125, v126, v127, v128, v129, v130, v131, u132, u133, u134, u135, u136, u137, u138, u139, u140], []⟩ W') :
    Code.wp Tryd.prog (reg82 16) (Exit.then K Q) ⟨#[u0, u1, u2, u3, u4, u5, u6, .slice (some ⟨b, 0, none⟩) 14 c7, u8, u9, u10, u11, .slice A6 nf c6, u13, .slice A5 nv5 c5, u15, u16, u17, u18, u19, u20, u21, u22, u23, u24, u25, u26, u27, u28, u29, u30, u31, u32, u33, u34, u35, u36, u37, u38, u39, u40, u41, u42, u43, u44, u45, u46, u47, u48, u49, u50, u51, u52, u53, u54, u55, u56, u57, u58, u59, u60, u61, u62, u63, u64, u65, u66, u67, u68, u69, u70, u71, u72, u73, u74, u75, u76, u77, u78, u79, u80, u81, u82, u83, u84, u85, u86, u87, u88, u89, u90, u91, u92, u93, u94, u95, u96, u97, u98, u99, u100, u101, u102, u103, u104, u105, u106, u107, u108, u109, u110, u111, u112, u113, u114, u115, u116, u117, u118, u119, u120, u121, u122, u123, u124, u125, u126, u127, u128, u129, u130, u131, u132, u133, u134, u135, u136, u137, u138, u139, u140], []⟩ W := by
  have hB0 : Blk (W.drew.alloc (.cells zRow 143)) W.heap.size 143 zRow := Blk.new W.drew 143 zRow
  obtain ⟨W6, e1, hX6, hb6⟩ := store143 (W := W.drew.alloc (.cells zRow 143)) #[.int .i64 n0, .int .i64 n1, .int .i64 n2, .int .i64 n3, .int .i64 n4, .int .i64 n5, .int .i64 n6, .int .i64 n7, .int .i64 n8, .int .i64 n9, .slice A5 nv5 c5, .int .i64 n10, .int .i64 n11, .int .i64 n12, .bool (n13 == 1), .slice A6 nf c6] hB0 rfl (by simp [Value.oneCell'])
  have hbel : Below W.heap.size W W6 := (((Below.refl W.heap.size W).drew).alloc (Nat.le_refl _) _).trans (hb6 _ (Nat.le_refl _))
  have c0 : W.cell? ⟨b, 0, none⟩ = some (.int .i64 n0) := cY 0 (by decide)
  have c1 : W.cell? ⟨b, 1, none⟩ = some (.int .i64 n1) := cY 1 (by decide)
  have c2 : W.cell? ⟨b, 2, none⟩ = some (.int .i64 n2) := cY 2 (by decide)
  have c3 : W.cell? ⟨b, 3, none⟩ = some (.int .i64 n3) := cY 3 (by decide)
  have c4 : W.cell? ⟨b, 4, none⟩ = some (.int .i64 n4) := cY 4 (by decide)
  have cc5 : W.cell? ⟨b, 5, none⟩ = some (.int .i64 n5) := cY 5 (by decide)
  have cc6 : W.cell? ⟨b, 6, none⟩ = some (.int .i64 n6) := cY 6 (by decide)
  have cc7 : W.cell? ⟨b, 7, none⟩ = some (.int .i64 n7) := cY 7 (by decide)
  have c8 : W.cell? ⟨b, 8, none⟩ = some (.int .i64 n8) := cY 8 (by decide)
  have c9 : W.cell? ⟨b, 9, none⟩ = some (.int .i64 n9) := cY 9 (by decide)
  have c10 : W.cell? ⟨b, 10, none⟩ = some (.int .i64 n10) := cY 10 (by decide)
  have c11 : W.cell? ⟨b, 11, none⟩ = some (.int .i64 n11) := cY 11 (by decide)
  have c12 : W.cell? ⟨b, 12, none⟩ = some (.int .i64 n12) := cY 12 (by decide)
  have c13 : W.cell? ⟨b, 13, none⟩ = some (.int .i64 n13) := cY 13 (by decide)
  have d0 : W6.cell? ⟨b, 0, none⟩ = some (.int .i64 n0) := (hbel.cell (p := ⟨b, 0, none⟩) hb).trans c0
  have d1 : W6.cell? ⟨b, 1, none⟩ = some (.int .i64 n1) := (hbel.cell (p := ⟨b, 1, none⟩) hb).trans c1
  have d2 : W6.cell? ⟨b, 2, none⟩ = some (.int .i64 n2) := (hbel.cell (p := ⟨b, 2, none⟩) hb).trans c2
  have d3 : W6.cell? ⟨b, 3, none⟩ = some (.int .i64 n3) := (hbel.cell (p := ⟨b, 3, none⟩) hb).trans c3
  have d4 : W6.cell? ⟨b, 4, none⟩ = some (.int .i64 n4) := (hbel.cell (p := ⟨b, 4, none⟩) hb).trans c4
  have d5 : W6.cell? ⟨b, 5, none⟩ = some (.int .i64 n5) := (hbel.cell (p := ⟨b, 5, none⟩) hb).trans cc5
  have d6 : W6.cell? ⟨b, 6, none⟩ = some (.int .i64 n6) := (hbel.cell (p := ⟨b, 6, none⟩) hb).trans cc6
  have d7 : W6.cell? ⟨b, 7, none⟩ = some (.int .i64 n7) := (hbel.cell (p := ⟨b, 7, none⟩) hb).trans cc7
  have d8 : W6.cell? ⟨b, 8, none⟩ = some (.int .i64 n8) := (hbel.cell (p := ⟨b, 8, none⟩) hb).trans c8
  have d9 : W6.cell? ⟨b, 9, none⟩ = some (.int .i64 n9) := (hbel.cell (p := ⟨b, 9, none⟩) hb).trans c9
  have d10 : W6.cell? ⟨b, 10, none⟩ = some (.int .i64 n10) := (hbel.cell (p := ⟨b, 10, none⟩) hb).trans c10
  have d11 : W6.cell? ⟨b, 11, none⟩ = some (.int .i64 n11) := (hbel.cell (p := ⟨b, 11, none⟩) hb).trans c11
  have d12 : W6.cell? ⟨b, 12, none⟩ = some (.int .i64 n12) := (hbel.cell (p := ⟨b, 12, none⟩) hb).trans c12
  have d13 : W6.cell? ⟨b, 13, none⟩ = some (.int .i64 n13) := (hbel.cell (p := ⟨b, 13, none⟩) hb).trans c13
  have hne : b ≠ W.heap.size := Nat.ne_of_lt hb
  have HF := Lib.hid (And.intro hX6 (And.intro hbel hK))
  clear hB0 hX6 hb6 hbel hK cY
  conv => arg 2; whnf
  simp [zRow, go_sem] at e1
  go_region_held3 (fun w' => w'.cell? ⟨b, 0, none⟩ = some (.int .i64 n0) ∧ w'.cell? ⟨b, 1, none⟩ = some (.int .i64 n1) ∧ w'.cell? ⟨b, 2, none⟩ = some (.int .i64 n2) ∧ w'.cell? ⟨b, 3, none⟩ = some (.int .i64 n3) ∧ w'.cell? ⟨b, 4, none⟩ = some (.int .i64 n4) ∧ w'.cell? ⟨b, 5, none⟩ = some (.int .i64 n5) ∧ w'.cell? ⟨b, 6, none⟩ = some (.int .i64 n6) ∧ w'.cell? ⟨b, 7, none⟩ = some (.int .i64 n7) ∧ w'.cell? ⟨b, 8, none⟩ = some (.int .i64 n8) ∧ w'.cell? ⟨b, 9, none⟩ = some (.int .i64 n9) ∧ w'.cell? ⟨b, 10, none⟩ = some (.int .i64 n10) ∧ w'.cell? ⟨b, 11, none⟩ = some (.int .i64 n11) ∧ w'.cell? ⟨b, 12, none⟩ = some (.int .i64 n12) ∧ w'.cell? ⟨b, 13, none⟩ = some (.int .i64 n13)) (go_keep) (fail)
  exact HF.out.2.2 _ _ _ _ _ _ _ _ _ _ _ _ _ _ _ _ _ _ _ _ _ _ _ _ _ _ _ _ _ _ _ _ _ _ _ _ _ _ _ _ _ _ _ _ _ _ _ _ _ _ _ HF.out.1 HF.out.2.1
end Go.Proofs.YtnlncfjibbdimaaDoor
