/-
  The walks of wire.NewReader, Reader.Left, Reader.End; command.Get's deferred closure where nothing panics.
-/
import Derived.Test.YtnlncfjibbdimaaDoorRdr6
import Derived.Defers
import Derived.Recover
namespace Go.Proofs.YtnlncfjibbdimaaDoor
open Go.RowKit
set_option linter.unusedSimpArgs false
set_option linter.unusedVariables false

set_option maxRecDepth 100000 in
set_option maxHeartbeats 800000 in
theorem newReader_any (w : World) (ad : Addr) (c : Nat) (bs : List Nat) (hl : bs.length ≤ 1099511627776) (h256 : ∀ x ∈ bs, x < 256) (hr : Rd w 0 w.heap.size 1 (some ad) bs.length (u8s bs)) :
    Calls Tryd.prog 107 #[.slice (some ad) bs.length c] w fun e w' => ∃ g : Nat, e = .returned (.pointer (some ⟨g, 0, none⟩)) ∧ RdrAt w' w.heap.size g bs 0 ∧ Below w.heap.size w w' := by
  have hcl := clone8 w ad c bs hl hr
  have HCL := Lib.hid hcl
  have HX := Lib.hid (And.intro hl h256)
  clear hcl hl h256 hr
  go_enter Tryd.func107, Tryd.ntmps107
  go_wp2_with (first | (go_at_call 147; refine HCL.out.mono ?_; rintro e w1 ⟨A1, c1, rfl, o1, b1⟩; have HO := Lib.hid (And.intro o1 b1); clear o1 b1) | fail)
  go_ret
  have hs := HO.out.2.size
  exact ⟨w1.heap.size, rfl, ⟨hs, HX.out.1, Nat.zero_le _, HX.out.2, A1, c1, Blk.new w1 230 _, (HO.out.1.fr (Fr.of_below ((Below.refl w1.heap.size w1).alloc (Nat.le_refl _) _) (fun _ => False)) (Nat.le_refl _) (fun _ _ _ h => h)).1⟩, HO.out.2.alloc hs _⟩

set_option maxRecDepth 100000 in
set_option maxHeartbeats 800000 in
theorem left_any (w : World) (lo g p : Nat) (bs : List Nat) (h : RdrAt w lo g bs p) : Calls Tryd.prog 151 #[.pointer (some ⟨g, 0, none⟩)] w fun e w' => e = .returned (.int .i64 ((bs.length : Int) - p)) ∧ Below w.heap.size w w' := by
  obtain ⟨h1, h2, h3, h4, A, c, hb, ho⟩ := h
  have cX := hb.cell
  have hp : (p : Int) ≤ bs.length := by omega
  have hn : (bs.length : Int) ≤ 1099511627776 := by omega
  go_enter Tryd.func151, Tryd.ntmps151
  go_wp2_with (fail)
  go_region_held3 (fun w' => w'.cell? ⟨g, 0, none⟩ = some (.slice A bs.length c) ∧ w'.cell? ⟨g, 1, none⟩ = some (.int .i64 p)) (go_keep) (fail)
  go_wp2_with (fail)
  go_ret
  exact ⟨ret_int (by rw [IntKind.wrap_i64]; omega), (Below.refl _ _).drew⟩

set_option maxRecDepth 100000 in
set_option maxHeartbeats 800000 in
theorem end_good (w : World) (lo g : Nat) (h : Rem w lo g []) : Calls Tryd.prog 109 #[.pointer (some ⟨g, 0, none⟩)] w fun e w' => e = .returned .nilIface ∧ Below w.heap.size w w' := by
  obtain ⟨bs, q, h1, h2⟩ := h
  have k151 := left_any w lo g q bs h1
  have hq : (bs.length : Int) - q = 0 := by
    have := congrArg List.length h2
    rw [List.length_drop] at this
    simp at this
    have := h1.2.2.1
    omega
  rw [hq] at k151
  have HK := Lib.hid k151
  clear k151 h1 h2 hq
  go_enter Tryd.func109, Tryd.ntmps109
  go_wp2_with (first | (go_at_call 151; refine HK.out.mono ?_; rintro e w1 ⟨rfl, b1⟩) | fail)
  go_ret
  exact ⟨rfl, b1⟩

theorem assert_broken_nil (w : World) : (Instr.typeAssert .nilIface 20 182 true).run Tryd.prog w = .ok (.tuple #[.agg #[.nilIface], .bool false]) w := by kernel_rfl

set_option maxRecDepth 100000 in
theorem get_idle (p q : Addr) (w : World) :
    CallsD Tryd.prog 106 #[.pointer (some p), .pointer (some q)] .returning w fun e u' w' => e = .returned (.tuple #[]) ∧ u' = .returning ∧ Below w.heap.size w w' := by
  have hb : Below w.heap.size w (w.alloc (.cells #[.nilIface] 182)) := (Below.refl w.heap.size w).alloc (Nat.le_refl _) _
  refine callsD_of_wpS Tryd.func106 rfl fun c₀ cs hu => ?_
  apply wpS_seq
  apply wpS_region
  simp [wpOpsS, go_sem, recoverD, hu, Tryd.ntmps106, Exit.thenS, assert_broken_nil]
  apply wpS_seq
  apply wpS_region
  simp [wpOpsS, go_sem, Exit.thenS]
  refine wpS_cond (t := false) (by simp [Act.eval, Array.replicate]) ?_
  simp only [Bool.false_eq_true, if_false]
  refine wpS_of_wp (wp_skip ?_)
  cases c₀
  simp_all [bodyPostS, results, Tryd.results106]

end Go.Proofs.YtnlncfjibbdimaaDoor
