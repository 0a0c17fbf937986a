/-
  The walks of wire.NewReader, Left, End; command.Get's deferred closure; command.Get over any bytes.
-/
import Derived.Test.YtnlncfjibbdimaaDoorURdr6
import Derived.Defers
import Derived.Recover
import Derived.Test.YtnlncfjibbdimaaDoorURdr8
namespace Go.Proofs.YtnlncfjibbdimaaDoor
open Go.RowKit
set_option linter.unusedSimpArgs false
set_option linter.unusedVariables false
set_option maxRecDepth 100000 in
set_option maxHeartbeats 800000 in
theorem newReader_any (w : World) (ad : Addr) (c : Nat) (bs : List Nat) (hl : bs.length ≤ 140737488355328) (h256 : ∀ x ∈ bs, x < 256) (hr : Rd w 0 w.heap.size 1 (some ad) bs.length (u8s bs)) :
    Calls Tryd.prog 107 #[.slice (some ad) bs.length c] w fun e w' => ∃ g : Nat, e = .returned (.pointer (some ⟨g, 0, none⟩)) ∧ RdrAt w' w.heap.size g bs 0 ∧ Below w.heap.size w w' := by
  have hcl := clone8 w ad c bs hl hr
  have HCL := Lib.hid hcl
  have HX := Lib.hid (And.intro hl h256)
  clear hcl hl h256 hr
  go_enter Tryd.func107, Tryd.ntmps107
  go_wp2_with (first | (go_at_call 147; refine HCL.out.mono ?_; rintro e w1 ⟨A1, c1, rfl, o1, b1⟩; have HO := Lib.hid (And.intro o1 b1); clear o1 b1) | fail)
  go_ret
  have hs := HO.out.2.size
  exact ⟨w1.heap.size, rfl, ⟨hs, HX.out.1, Nat.zero_le _, HX.out.2, A1, c1, Blk.new w1 230 _, (HO.out.1.fr (Fr.of_below ((Below.refl w1.heap.size w1).alloc (Nat.le_refl _) _) (fun _ => False)) (Nat.le_refl _) (fun _ _ _ h => h)).1⟩, HO.out.2.alloc hs _⟩
set_option maxRecDepth 100000 in
set_option maxHeartbeats 800000 in
theorem left_any (w : World) (lo g p : Nat) (bs : List Nat) (h : RdrAt w lo g bs p) : Calls Tryd.prog 151 #[.pointer (some ⟨g, 0, none⟩)] w fun e w' => e = .returned (.int .i64 ((bs.length : Int) - p)) ∧ Below w.heap.size w w' := by
  obtain ⟨h1, h2, h3, h4, A, c, hb, ho⟩ := h
  have cX := hb.cell
  have hp : (p : Int) ≤ bs.length := by omega
  have hn : (bs.length : Int) ≤ 140737488355328 := by omega
  go_enter Tryd.func151, Tryd.ntmps151
  go_wp2_with (fail)
  go_region_held3 (fun w' => w'.cell? ⟨g, 0, none⟩ = some (.slice A bs.length c) ∧ w'.cell? ⟨g, 1, none⟩ = some (.int .i64 p)) (go_keep) (fail)
  go_wp2_with (fail)
  go_ret
  exact ⟨ret_int (by rw [IntKind.wrap_i64]; omega), (Below.refl _ _).drew⟩
set_option maxRecDepth 100000 in
set_option maxHeartbeats 800000 in
theorem end_good (w : World) (lo g : Nat) (h : Rem w lo g []) : Calls Tryd.prog 109 #[.pointer (some ⟨g, 0, none⟩)] w fun e w' => e = .returned .nilIface ∧ Below w.heap.size w w' := by
  obtain ⟨bs, q, h1, h2⟩ := h
  have k151 := left_any w lo g q bs h1
  have hq : (bs.length : Int) - q = 0 := by
    have := congrArg List.length h2
    rw [List.length_drop] at this
    simp at this
    have := h1.2.2.1
    omega
  rw [hq] at k151
  have HK := Lib.hid k151
  clear k151 h1 h2 hq
  go_enter Tryd.func109, Tryd.ntmps109
  go_wp2_with (first | (go_at_call 151; refine HK.out.mono ?_; rintro e w1 ⟨rfl, b1⟩) | fail)
  go_ret
  exact ⟨rfl, b1⟩
theorem assert_broken_nil (w : World) : (Instr.typeAssert .nilIface 20 182 true).run Tryd.prog w = .ok (.tuple #[.agg #[.nilIface], .bool false]) w := by kernel_rfl
set_option maxRecDepth 100000 in
theorem get_idle (p q : Addr) (w : World) :
    CallsD Tryd.prog 106 #[.pointer (some p), .pointer (some q)] .returning w fun e u' w' => e = .returned (.tuple #[]) ∧ u' = .returning ∧ Below w.heap.size w w' := by
  have hb : Below w.heap.size w (w.alloc (.cells #[.nilIface] 182)) := (Below.refl w.heap.size w).alloc (Nat.le_refl _) _
  refine callsD_of_wpS Tryd.func106 rfl fun c₀ cs hu => ?_
  apply wpS_seq
  apply wpS_region
  simp [wpOpsS, go_sem, recoverD, hu, Tryd.ntmps106, Exit.thenS, assert_broken_nil]
  apply wpS_seq
  apply wpS_region
  simp [wpOpsS, go_sem, Exit.thenS]
  refine wpS_cond (t := false) (by simp [Act.eval, Array.replicate]) ?_
  simp only [Bool.false_eq_true, if_false]
  refine wpS_of_wp (wp_skip ?_)
  cases c₀
  simp_all [bodyPostS, results, Tryd.results106]
end Go.Proofs.YtnlncfjibbdimaaDoor
namespace Go.Proofs.YtnlncfjibbdimaaDoor
open Go.RowKit
def GetPost (c : Cmd) (w : World) (e : Ending) (w' : World) : Prop :=
  ∃ pv, e = .returned (.tuple #[.agg (c.cells pv).toArray, .nilIface]) ∧ OwnInts w' w.heap.size w'.heap.size pv c.parts ∧ Below w.heap.size w w'
end Go.Proofs.YtnlncfjibbdimaaDoor
namespace Go.Proofs.YtnlncfjibbdimaaDoor
open Go.RowKit
set_option linter.unusedSimpArgs false
set_option linter.unusedVariables false
set_option maxRecDepth 100000 in
set_option maxHeartbeats 800000 in
theorem end_any (w : World) (lo g : Nat) (R : List Nat) (h : Rem w lo g R) (a2 : Addr) (h2 : w.cell? ⟨2, 0, none⟩ = some (errv a2)) :
    Calls Tryd.prog 109 #[.pointer (some ⟨g, 0, none⟩)] w fun e w' => e = .returned (if R = [] then .nilIface else errv a2) ∧ Below w.heap.size w w' := by
  by_cases hR : R = []
  · subst hR
    refine (end_good w lo g h).mono ?_
    rintro e w' ⟨rfl, b⟩
    exact ⟨by simp, b⟩
  · rw [if_neg hR]
    have h00 := World.block_lt_of_cell? w _ h2
    obtain ⟨bs, q, h1, h3⟩ := h
    have k151 := left_any w lo g q bs h1
    obtain ⟨d, hd⟩ : ∃ d : Int, d = (bs.length : Int) - q := ⟨_, rfl⟩
    have hpos : d > 0 := by
      have h4 := congrArg List.length h3
      rw [List.length_drop] at h4
      have : 0 < R.length := List.length_pos_iff.2 hR
      omega
    rw [← hd] at k151
    have HK := Lib.hid k151
    clear k151 h1 h3 hd
    go_enter Tryd.func109, Tryd.ntmps109
    go_wp2_with (first | (go_at_call 151; refine HK.out.mono ?_; rintro e w1 ⟨rfl, b1⟩; have c2 := (b1.cell h00).trans h2) | fail)
    go_ret
    exact ⟨rfl, b1⟩
theorem assert_broken (v : Value) (w : World) : (Instr.typeAssert (.iface 182 (.agg #[v])) 20 182 true).run Tryd.prog w = .ok (.tuple #[.agg #[v], .bool true]) w := by kernel_rfl
def zCells : Array Value := #[.int .i64 0, .int .i64 0, .int .i64 0, .int .i64 0, .string ⟨#[]⟩, .string ⟨#[]⟩, .int .i64 0, .int .i64 0, .int .i64 0, .int .i64 0, .int .i64 0, .int .i64 0, .int .i64 0, .string ⟨#[]⟩, .int .i64 0, .slice none 0 0, .int .i64 0, .int .i64 0]
set_option maxRecDepth 100000 in
theorem get_catch (y : Nat) (old : Array Value) (ev : Value) (a2 : Addr) (older : List PanicEntry) (w : World) (hY : Blk w y 81 old) (ho : old.size = 18) (hE : Blk w (y + 1) 34 #[ev]) (hy : 2 < y) (h2 : w.cell? ⟨2, 0, none⟩ = some (errv a2)) :
    CallsD Tryd.prog 106 #[.pointer (some ⟨y, 0, none⟩), .pointer (some ⟨y + 1, 0, none⟩)] (.panicking ({ v := .iface 182 (.agg #[errv a2]), recovered := false } :: older)) w fun e u' w' =>
      e = .returned (.tuple #[]) ∧ u' = .panicking ({ v := .iface 182 (.agg #[errv a2]), recovered := true } :: older) ∧ Blk w' y 81 zCells ∧ Blk w' (y + 1) 34 #[errv a2] ∧ Below y w w' := by
  have hlt := hY.lt
  have hlt1 := hE.lt
  obtain ⟨W, hW⟩ : ∃ W, W = w.alloc (.cells #[.iface 251 (.pointer (some a2))] 182) := ⟨_, rfl⟩
  have hbW : Below w.heap.size w W := by rw [hW]; exact (Below.refl w.heap.size w).alloc (Nat.le_refl _) _
  have hYW := hY.below hbW hlt
  have hEW := hE.below hbW hlt1
  have c2 := (hbW.cell (Nat.lt_trans hy hlt)).trans h2
  obtain ⟨W6, e1, hY2, q1, _, q3⟩ := store81 zCells hYW (by rw [ho]; rfl) (by simp [zCells, Value.oneCell'])
  have hE2 := q1 _ _ _ hEW (by omega)
  have cE := hE2.cell 0
  have fE := hE2.frozen
  have hfin : Blk (W6.setCell ⟨y + 1, 0, none⟩ (errv a2)) y 81 zCells ∧ Blk (W6.setCell ⟨y + 1, 0, none⟩ (errv a2)) (y + 1) 34 #[errv a2] ∧ Below y w (W6.setCell ⟨y + 1, 0, none⟩ (errv a2)) :=
    ⟨hY2.far (p := ⟨y + 1, 0, none⟩) (by simp) _, hE2.set_ 0 _, (((Fr.of_below (hbW.mono (Nat.le_of_lt hlt)) (fun _ => False)).trans (q3 y _ (.inr (Nat.le_refl _)))).below (fun _ _ h => h)).setCell (p := ⟨y + 1, 0, none⟩) (by simp) _⟩
  have HF := Lib.hid hfin
  clear hfin hYW hEW hE2 hY2 hbW q1 q3
  refine callsD_of_wpS Tryd.func106 rfl fun c₀ cs hu => ?_
  apply wpS_seq
  apply wpS_region
  simp [wpOpsS, go_sem, recoverD, hu, Tryd.ntmps106, Exit.thenS, assert_broken]
  apply wpS_seq
  apply wpS_region
  simp [wpOpsS, go_sem, Exit.thenS]
  refine wpS_cond (t := true) (by simp [Act.eval, Array.replicate]) ?_
  simp only [if_true]
  rw [← hW]
  clear hW hlt hlt1 h2 hY hE
  simp [zCells, go_sem] at e1
  apply wpS_region
  simp [wpOpsS, go_sem, c2, cE, fE, e1, Exit.thenS]
  simp [bodyPostS, results, Tryd.results106]
  exact HF.out
end Go.Proofs.YtnlncfjibbdimaaDoor
namespace Go.Proofs.YtnlncfjibbdimaaDoor
open Go.RowKit
set_option linter.unusedSimpArgs false
set_option linter.unusedVariables false
def zeroCmd : Cmd := { kind := 0, idn := 0, idb := 0, ids := 0, bucket := ⟨#[]⟩, key := ⟨#[]⟩, upn := 0, upb := 0, ups := 0, pbn := 0, pbb := 0, pbs := 0, psize := 0, etag := ⟨#[]⟩, part := 0, parts := [], time := 0, days := 0 }
theorem IntsAt.nil_ (w : World) (lo hi : Nat) : IntsAt w lo hi (.slice none 0 0) [] := OwnInts.at_ (lo := lo) (hi := hi) ⟨⟨World.ownsRow_nil _ _ _ _, fun g hg => by simp [Value.ownBlock] at hg⟩, by simp⟩
/-- What Get answers. -/
def GetAny (a2 : Addr) (bs : List Nat) (w : World) (e : Ending) (w' : World) : Prop :=
  (∃ c, pCmd bs = some (c, []) ∧ chkB c = true ∧ GetPost c w e w') ∨
  ((∀ c, pCmd bs = some (c, []) → chkB c = false) ∧ e = .returned (.tuple #[.agg (zeroCmd.cells (.slice none 0 0)).toArray, errv a2]) ∧ Below w.heap.size w w')
set_option maxRecDepth 100000 in
set_option maxHeartbeats 3200000 in
theorem get_any (w : World) (ad : Addr) (cp : Nat) (bs : List Nat) (hl : bs.length ≤ 140737488355328) (h256 : ∀ x ∈ bs, x < 256)
    (hr : Rd w 0 w.heap.size 1 (some ad) bs.length (u8s bs)) (a1 : Addr) (h1 : w.cell? ⟨1, 0, none⟩ = some (errv a1)) (a2 : Addr) (h2 : w.cell? ⟨2, 0, none⟩ = some (errv a2)) : Calls Tryd.prog 47 #[.slice (some ad) bs.length cp] w (GetAny a2 bs w) := by
  have hmf : ∀ (fn : Fn) (first cap : Array Value) (w : World), (Instr.makeFunc fn first cap).run Tryd.prog w = .ok (.func fn first cap) w := fun _ _ _ _ => rfl
  have h00 := World.block_lt_of_cell? w _ h1
  have h02 := World.block_lt_of_cell? w _ h2
  simp only at h02
  have H := Lib.hid (And.intro hl (And.intro h256 (And.intro hr (And.intro h1 h2))))
  obtain ⟨n, hn⟩ : ∃ n, n = bs.length := ⟨_, rfl⟩
  rw [← hn]
  have HN := Lib.hid hn
  clear hl h256 hr h1 h2 hn
  go_enter_defers Tryd.func47, Tryd.ntmps47
  go_upto_region 2 with (fail)
  refine wp_letter (fun W => Below w.heap.size w W ∧ Blk W w.heap.size 81 zCells ∧ Blk W (w.heap.size + 1) 34 #[.nilIface] ∧ w.heap.size + 2 ≤ W.heap.size)
    ⟨((Below.refl w.heap.size w).alloc (Nat.le_refl _) _).alloc (by simp) _, (Blk.new w 81 _).alloc _, Blk.new1 w _ 34 _, by simp⟩ ?_
  rintro W ⟨hb, hY, hE, hs⟩
  obtain ⟨y, hy⟩ : ∃ y, y = w.heap.size := ⟨_, rfl⟩
  have hk107 := newReader_any W ad cp bs H.out.1 H.out.2.1 ((H.out.2.2.1.fr (Fr.of_below hb (fun _ => False)) (Nat.le_refl _) (fun _ _ _ h => h)).wider (Nat.le_refl _) hb.size)
  rw [← HN.out] at hk107
  rw [← hy] at hY hE hs ⊢
  have h2y : 2 < y := by omega
  have HW := Lib.hid (And.intro hb (And.intro hY (And.intro hE (And.intro hs hy))))
  have HK107 := Lib.hid hk107
  clear hb hY hE hs hy hk107
  go_upto_region 3 with (first | (go_at_call 107; refine HK107.out.mono ?_; rintro e w2 ⟨g, rfl, R2, b2⟩; have H2 := Lib.hid (And.intro R2 b2); clear R2 b2) | fail)
  have hg : W.heap.size ≤ g := H2.out.1.1
  have hyW : y + 1 < W.heap.size := by have := HW.out.2.2.2.1; omega
  have hRem : Rem (w2.alloc (.cells #[.pointer (some ⟨g, 0, none⟩)] 187)) W.heap.size g bs := ⟨bs, 0, H2.out.1.below ((Below.refl w2.heap.size w2).alloc (Nat.le_refl _) _) (Nat.le_refl _), by simp⟩
  refine wp_letter (fun W3 => Rem W3 W.heap.size g bs ∧ Below w.heap.size w W3 ∧ Blk W3 y 81 zCells ∧ Blk W3 (y + 1) 34 #[.nilIface] ∧ Blk W3 w2.heap.size 187 #[.pointer (some ⟨g, 0, none⟩)])
    ⟨hRem, (HW.out.1.trans (H2.out.2.mono HW.out.1.size)).alloc (Nat.le_trans HW.out.1.size H2.out.2.size) _, (HW.out.2.1.below H2.out.2 (by omega)).alloc _, (HW.out.2.2.1.below H2.out.2 (by omega)).alloc _, Blk.new w2 187 _⟩ ?_
  have hgt : g < w2.heap.size := H2.out.1.lt
  obtain ⟨t, ht⟩ : ∃ t, t = w2.heap.size := ⟨_, rfl⟩
  rw [← ht] at hgt ⊢
  clear hRem ht
  rintro W3 ⟨hR, hb, hY, hE, hT⟩
  have hyg : y ≠ g := by omega
  have heg : y + 1 ≠ g := by omega
  have htg : t ≠ g := by omega
  have hyt : y ≠ t := by omega
  have het : y + 1 ≠ t := by omega
  have cT := hT.cell
  have hc2 := (hb.cell h02).trans H.out.2.2.2.2
  have k108 := rcmd_any W3 W.heap.size g bs a2 hR (by omega) hc2
  have HS := Lib.hid (And.intro hR (And.intro hb (And.intro hY (And.intro hE (And.intro hT hc2)))))
  unfold CmdWay at k108
  have hb4 : ∀ W4, Fr W3.heap.size (fun k => k = g) W3 W4 → Below w.heap.size w W4 := fun W4 f => ((Fr.of_below hb (fun _ => False)).trans (f.mono hb.size (S' := fun _ => False) (fun k hk he => by have := HW.out.1.size; omega))).below (fun _ _ h => h)
  have HB4 := Lib.hid hb4
  clear hR hb hY hE hT HK107 H2 hc2 hb4
  cases hpc : pCmd bs with
  | none =>
    rw [hpc] at k108
    have HP := Lib.hid hpc
    have HK := Lib.hid k108
    clear hpc k108
    go_upto_region 4 with (first | (go_at_call 108; refine HK.out.mono ?_; rintro e w4 ⟨he, f4⟩; unfold brokenP at he; subst he; have F4 := Lib.hid f4; clear f4) | fail)
    have hY4 := HS.out.2.2.1.keep F4.out hyg
    have hE4 := HS.out.2.2.2.1.keep F4.out heg
    have hb4 := HB4.out w4 F4.out
    refine leaves_cons (f := 106) (args := #[.pointer (some ⟨y, 0, none⟩), .pointer (some ⟨y + 1, 0, none⟩)]) (by simp) (by simp [go_sem]) ?_
    refine (get_catch y zCells .nilIface a2 [] w4 hY4 rfl hE4 h2y ((hb4.cell h02).trans H.out.2.2.2.2)).mono ?_
    rintro e u' W10 ⟨rfl, rfl, hY10, hE10, hb10⟩
    have hld := run_loadVar_mid (P := Tryd.prog) W10 y 0 81 (zeroCmd.cells (.slice none 0 0)) _ (Blk.range hY10) Tryd.underlying81 rfl cmd_info
    have cE := hE10.cell 0
    have hend : GetAny a2 bs w (.returned (.tuple #[.agg (zeroCmd.cells (.slice none 0 0)).toArray, errv a2])) W10 :=
      .inr ⟨fun c hc => (by rw [HP.out] at hc; cases hc), rfl, hb4.trans (hb10.mono (Nat.le_of_eq HW.out.2.2.2.2.symm))⟩
    have HEND := Lib.hid hend
    clear hend
    simp [go_sem] at hld
    simp [Leaves, settle, results, Tryd.results47, go_sem, hld, cE]
    exact HEND.out
  | some x =>
    obtain ⟨c, R⟩ := x
    rw [hpc] at k108
    have HP := Lib.hid hpc
    have HK := Lib.hid k108
    clear hpc k108
    go_upto_region 4 with (first
      | ((with_reducible refine law_store_row 81 (.tmp 2) (.tmp 10) y 81 zCells CS.toArray H4.out.2.2.2.1 ?_ ?_ hc18' hold hone ?_); rfl; rfl; intro W5 hY5 hF5 hs5; have H5 := Lib.hid (And.intro hY5 (And.intro hF5 hs5)); clear hY5 hF5 hs5)
      | (go_at_call 108
         refine HK.out.mono ?_
         rintro e w4 ⟨pv, rfl, ho, hR, hf⟩
         obtain ⟨CS, hCS⟩ : ∃ cs, cs = c.cells pv := ⟨_, rfl⟩
         rw [← hCS]
         have hc18 : (Tryd.prog.info? 81).map (·.size) = some CS.length := by rw [hCS]; exact cmd_info
         have hc18' : (Tryd.prog.info? 81).map (·.size) = some CS.toArray.size := by rw [hCS]; exact cmd_info
         have hold : zCells.size = CS.toArray.size := by rw [hCS]; rfl
         have hone : CS.toArray.all (·.oneCell') = true := by
           obtain ⟨A9, c9, hp9, _⟩ := OwnRow.form ho.1
           rw [hCS, hp9]
           exact cells_oneCell _ _ _ _
         have H4 := Lib.hid (And.intro hCS (And.intro ho (And.intro hR (And.intro (HS.out.2.2.1.keep hf hyg) (And.intro (HS.out.2.2.2.1.keep hf heg) (And.intro (HS.out.2.2.2.2.1.keep hf htg) hf))))))
         clear ho hR hf hCS)
      | fail)
    have hT5 := H4.out.2.2.2.2.2.1.fr H5.out.2.1 H4.out.2.2.2.2.2.1.lt (Ne.symm hyt)
    have hE5 := H4.out.2.2.2.2.1.fr H5.out.2.1 H4.out.2.2.2.2.1.lt (by omega)
    have hR5 := H4.out.2.2.1.fr1 H5.out.2.1 H4.out.2.2.2.1 (by decide) hyg
    have ho5 := H4.out.2.1.frz H5.out.2.1 H4.out.2.2.2.1 (by decide)
    have hb5 : Below w.heap.size w W5 := by
      have f4 : Fr w.heap.size (fun _ => False) w w4 := (Fr.of_below HS.out.2.1 _).trans ((H4.out.2.2.2.2.2.2.mono (HS.out.2.1.size) (S' := fun _ => False) (fun k hk he => by have := HW.out.1.size; omega)))
      have f5 := f4.trans (H5.out.2.1.mono (S' := fun _ => False) (f4.size) (fun k hk he => by have := HW.out.2.2.2.2; omega))
      exact f5.below (fun _ _ h => h)
    have k109 := end_any W5 W.heap.size g R hR5 a2 ((hb5.cell h02).trans H.out.2.2.2.2)
    have cT := hT5.cell
    have HF := Lib.hid (And.intro hE5 (And.intro ho5 (And.intro hb5 (And.intro H5.out.1 H4.out.1))))
    have HK9 := Lib.hid k109
    have HS3 := Lib.hid HS.out.2.1.size
    clear hT5 hE5 hR5 ho5 hb5 k109 HS HK
    have hinv := pCmd_inv H.out.2.1 HP.out
    have hz : c.Sized := ⟨by simp only [maxLen]; omega, by simp only [maxLen]; omega, by simp only [maxLen]; omega⟩
    have HZ := Lib.hid hz
    clear hz hinv
    by_cases hR : R = []
    · have HR := Lib.hid hR
      have hRv : (if R = [] then Value.nilIface else errv a2) = Value.nilIface := if_pos hR
      have HRV := Lib.hid hRv
      clear hR hRv
      go_upto_region 6 with (fail)
      refine HK9.out.mono ?_
      rintro e w6 ⟨he, b6⟩
      rw [HRV.out] at he
      subst he
      have hld := run_loadVar_mid (P := Tryd.prog) w6 y 0 81 CS _ (HF.out.2.2.2.1.below b6 HF.out.2.2.2.1.lt).range Tryd.underlying81 rfl hc18
      obtain ⟨A9, c9, hp9, _⟩ := OwnRow.form H4.out.2.1.1
      have k43 := check_any c HZ.out w6 W3.heap.size W5.heap.size pv ((HF.out.2.1.wider (Nat.le_refl _) (Nat.le_of_eq H5.out.2.2.symm)).at_.fr (Fr.of_below b6 (fun _ => False)) (Nat.le_refl _) (fun _ _ _ h => h)) b6.size a1 (by rw [b6.cell (Nat.lt_of_lt_of_le h00 HF.out.2.2.1.size), HF.out.2.2.1.cell h00]; exact H.out.2.2.2.1)
      rw [← HF.out.2.2.2.2] at k43
      have HK43 := Lib.hid k43
      have H6 := Lib.hid b6
      clear k43 b6 hp9
      simp [go_sem] at hld
      cases hck : chkB c with
      | true =>
        have HC := Lib.hid hck
        clear hck
        go_upto_region 6 with (fail)
        refine HK43.out.mono ?_
        rintro e w7 ⟨rfl, b7⟩
        rw [HC.out, if_pos rfl]
        have b57 := H6.out.trans (b7.mono H6.out.size)
        have hY7 := HF.out.2.2.2.1.below b57 HF.out.2.2.2.1.lt
        have hE7 := HF.out.1.below b57 HF.out.1.lt
        have ho7 := (HF.out.2.1.wider (Nat.le_refl _) (Nat.le_of_eq H5.out.2.2.symm)).fr (Fr.of_below b57 (fun _ => False)) (Nat.le_refl _) (fun _ _ _ h => h)
        have hb7 := HF.out.2.2.1.trans (b57.mono HF.out.2.2.1.size)
        have hr7 := hY7.range
        have H7 := Lib.hid (And.intro hY7 (And.intro hE7 (And.intro ho7 (And.intro hb7 (And.intro hr7 b57.size)))))
        clear hY7 hE7 ho7 hb7 hr7 b57 b7 hld HK43 HK9 cT
        go_wp2_with (first
          | ((with_reducible refine law_load 81 (.tmp 2) y 0 CS ?_ H7.out.2.2.2.2.1 Tryd.underlying81 ?_ hc18 ?_); rfl; rfl)
          | ((with_reducible refine law_store_row 81 (.tmp 2) (.tmp 22) y 81 CS.toArray CS.toArray H7.out.1 ?_ ?_ hc18' rfl hone ?_); rfl; rfl; intro W8 hY8 hF8 hs8; have hE8 := H7.out.2.1.fr hF8 H7.out.2.1.lt (by omega); have cE := hE8.cell; have fE := hE8.frozen; have H8 := Lib.hid (And.intro hY8 (And.intro hF8 (And.intro hs8 hE8))); clear hY8 hF8 hs8 hE8)
          | fail)
        have hY9 := H8.out.1.far (p := ⟨y + 1, 0, none⟩) (by simp) .nilIface
        have hE9 := H8.out.2.2.2.set_ 0 .nilIface
        have hF9 : Fr w.heap.size (fun _ => False) w W8 := (Fr.of_below H7.out.2.2.2.1 _).trans (H8.out.2.1.mono (S' := fun _ => False) H7.out.2.2.2.1.size (fun k hk he => by have := HW.out.2.2.2.2; omega))
        have hB9 : Below w.heap.size w (W8.setCell ⟨y + 1, 0, none⟩ .nilIface) := (hF9.below (fun _ _ h => h)).setCell (p := ⟨y + 1, 0, none⟩) (by have := HW.out.2.2.2.2; simp; omega) _
        have ho9 := (H7.out.2.2.1.wider (Nat.le_refl _) H7.out.2.2.2.2.2).frz H8.out.2.1 H7.out.1 (by decide)
        have ho9' : OwnInts (W8.setCell ⟨y + 1, 0, none⟩ .nilIface) W3.heap.size w7.heap.size pv c.parts := ⟨⟨ownsRow_far ho9.1.1 H8.out.2.2.2 (by decide), ho9.1.2⟩, ho9.2⟩
        have hsz : w7.heap.size ≤ (W8.setCell ⟨y + 1, 0, none⟩ .nilIface).heap.size := by have := H8.out.2.2.1; simp; omega
        have H9 := Lib.hid (And.intro hY9 (And.intro hE9 (And.intro hB9 (And.intro ho9' hsz))))
        clear hY9 hE9 hF9 hB9 ho9 ho9' hsz cE fE
        refine leaves_cons (f := 106) (args := #[.pointer (some ⟨y, 0, none⟩), .pointer (some ⟨y + 1, 0, none⟩)]) (by simp) (by simp [go_sem]) ?_
        refine (get_idle ⟨y, 0, none⟩ ⟨y + 1, 0, none⟩ _).mono ?_
        rintro e u' W10 ⟨rfl, rfl, b10⟩
        have hld := run_loadVar_mid (P := Tryd.prog) W10 y 0 81 CS _ (H9.out.1.below b10 H9.out.1.lt).range Tryd.underlying81 rfl hc18
        have cE := (H9.out.2.1.below b10 H9.out.2.1.lt).cell
        have hend : GetAny a2 bs w (.returned (.tuple #[.agg CS.toArray, .nilIface])) W10 := by
          rw [HF.out.2.2.2.2]
          refine .inl ⟨c, by rw [HP.out, HR.out], HC.out, pv, rfl, ?_, H9.out.2.2.1.trans (b10.mono H9.out.2.2.1.size)⟩
          exact ((H9.out.2.2.2.1.wider (Nat.le_refl _) H9.out.2.2.2.2).fr (Fr.of_below b10 (fun _ => False)) (Nat.le_refl _) (fun _ _ _ h => h)).wider HS3.out b10.size
        have HEND := Lib.hid hend
        clear hend b10
        simp [go_sem] at hld
        simp [Leaves, settle, results, Tryd.results47, go_sem, hld, cE]
        exact HEND.out
      | false =>
        have HC := Lib.hid hck
        clear hck
        go_upto_region 5 with (first | (go_at_call 43; refine HK43.out.mono ?_; rintro e w7 ⟨he, b7⟩; rw [HC.out, if_neg (by decide)] at he; subst he; have b57 := H6.out.trans (b7.mono H6.out.size); have B57 := Lib.hid b57; clear b57 b7) | fail)
        have b57 := B57.out
        clear hld
        have hYX := HF.out.2.2.2.1.below b57 HF.out.2.2.2.1.lt
        have hEX := HF.out.1.below b57 HF.out.1.lt
        have hbX := HF.out.2.2.1.trans (b57.mono HF.out.2.2.1.size)
        have hcX := (hbX.cell h02).trans H.out.2.2.2.2
        obtain ⟨W6, e1, hY6, q1, _, q3⟩ := store81 (w5 := w7.drew) zCells hYX.drew hold.symm (by simp [zCells, Value.oneCell'])
        have hE6 := q1 _ _ _ hEX.drew (by omega)
        have hf6 := q3 y (fun _ => False) (.inr (Nat.le_refl _))
        have hc6 : W6.cell? ⟨2, 0, none⟩ = some (errv a2) := (hf6.cell (p := ⟨2, 0, none⟩) h2y (fun h => h)).trans hcX
        have hc7 : (W6.setCell ⟨y + 1, 0, none⟩ (.iface 251 (.pointer (some a2)))).cell? ⟨2, 0, none⟩ = some (errv a2) := (World.cell?_setCell_far W6 ⟨y + 1, 0, none⟩ ⟨2, 0, none⟩ _ (by simp; omega)).trans hc6
        have cE6 := hE6.cell 0
        have fE6 := hE6.frozen
        have hY7 := hY6.far (p := ⟨y + 1, 0, none⟩) (by simp) (errv a2)
        have hE7 := hE6.set_ 0 (errv a2)
        have hb7 : Below w.heap.size w (W6.setCell ⟨y + 1, 0, none⟩ (errv a2)) := (((Fr.of_below hbX (fun _ => False)).drew.trans (hf6.mono (Nat.le_of_eq HW.out.2.2.2.2.symm) (fun _ _ h => h))).below (fun _ _ h => h)).setCell (p := ⟨y + 1, 0, none⟩) (by have := HW.out.2.2.2.2; simp; omega) _
        have H7 := Lib.hid (And.intro hY7 (And.intro hE7 hb7))
        clear hYX hEX hbX hY6 hE6 hf6 hY7 hE7 hb7 q1 q3 cT
        simp [zCells, go_sem] at e1
        go_region_held3 (fun w' => w'.cell? ⟨2, 0, none⟩ = some (errv a2)) (go_keep) (fail)
        clear e1 cE6 fE6
        go_wp2_with (fail)
        refine leaves_cons (f := 106) (args := #[.pointer (some ⟨y, 0, none⟩), .pointer (some ⟨y + 1, 0, none⟩)]) (by simp) (by simp [go_sem]) ?_
        refine (get_idle ⟨y, 0, none⟩ ⟨y + 1, 0, none⟩ _).mono ?_
        rintro e u' W10 ⟨rfl, rfl, b10⟩
        have hld := run_loadVar_mid (P := Tryd.prog) W10 y 0 81 (zeroCmd.cells (.slice none 0 0)) _ (Blk.range (H7.out.1.below b10 H7.out.1.lt)) Tryd.underlying81 rfl cmd_info
        have cE := (H7.out.2.1.below b10 H7.out.2.1.lt).cell 0
        have hend : GetAny a2 bs w (.returned (.tuple #[.agg (zeroCmd.cells (.slice none 0 0)).toArray, errv a2])) W10 :=
          .inr ⟨fun c' hc => (by rw [HP.out] at hc; injection hc with hc; injection hc with hc _; rw [← hc]; exact HC.out), rfl, H7.out.2.2.trans (b10.mono H7.out.2.2.size)⟩
        have HEND := Lib.hid hend
        clear hend b10
        simp [go_sem] at hld
        simp [Leaves, settle, results, Tryd.results47, go_sem, hld, cE]
        exact HEND.out
    · have HR := Lib.hid hR
      have hRv : (if R = [] then Value.nilIface else errv a2) = errv a2 := if_neg hR
      have HRV := Lib.hid hRv
      clear hR hRv
      go_upto_region 5 with (first | (go_at_call 109; refine HK9.out.mono ?_; rintro e w6 ⟨he, b6⟩; rw [HRV.out] at he; subst he) | fail)
      have hYX := HF.out.2.2.2.1.below b6 HF.out.2.2.2.1.lt
      have hEX := HF.out.1.below b6 HF.out.1.lt
      have hbX := HF.out.2.2.1.trans (b6.mono HF.out.2.2.1.size)
      have hcX := (hbX.cell h02).trans H.out.2.2.2.2
      obtain ⟨W6, e1, hY6, q1, _, q3⟩ := store81 (w5 := w6.drew) zCells hYX.drew hold.symm (by simp [zCells, Value.oneCell'])
      have hE6 := q1 _ _ _ hEX.drew (by omega)
      have hf6 := q3 y (fun _ => False) (.inr (Nat.le_refl _))
      have hc6 : W6.cell? ⟨2, 0, none⟩ = some (errv a2) := (hf6.cell (p := ⟨2, 0, none⟩) h2y (fun h => h)).trans hcX
      have hc7 : (W6.setCell ⟨y + 1, 0, none⟩ (.iface 251 (.pointer (some a2)))).cell? ⟨2, 0, none⟩ = some (errv a2) := (World.cell?_setCell_far W6 ⟨y + 1, 0, none⟩ ⟨2, 0, none⟩ _ (by simp; omega)).trans hc6
      have cE6 := hE6.cell 0
      have fE6 := hE6.frozen
      have hY7 := hY6.far (p := ⟨y + 1, 0, none⟩) (by simp) (errv a2)
      have hE7 := hE6.set_ 0 (errv a2)
      have hb7 : Below w.heap.size w (W6.setCell ⟨y + 1, 0, none⟩ (errv a2)) := (((Fr.of_below hbX (fun _ => False)).drew.trans (hf6.mono (Nat.le_of_eq HW.out.2.2.2.2.symm) (fun _ _ h => h))).below (fun _ _ h => h)).setCell (p := ⟨y + 1, 0, none⟩) (by have := HW.out.2.2.2.2; simp; omega) _
      have H7 := Lib.hid (And.intro hY7 (And.intro hE7 hb7))
      clear hYX hEX hbX hY6 hE6 hf6 hY7 hE7 hb7 q1 q3 cT
      simp [zCells, go_sem] at e1
      go_region_held3 (fun w' => w'.cell? ⟨2, 0, none⟩ = some (errv a2)) (go_keep) (fail)
      clear e1 cE6 fE6
      go_wp2_with (fail)
      refine leaves_cons (f := 106) (args := #[.pointer (some ⟨y, 0, none⟩), .pointer (some ⟨y + 1, 0, none⟩)]) (by simp) (by simp [go_sem]) ?_
      refine (get_idle ⟨y, 0, none⟩ ⟨y + 1, 0, none⟩ _).mono ?_
      rintro e u' W10 ⟨rfl, rfl, b10⟩
      have hld := run_loadVar_mid (P := Tryd.prog) W10 y 0 81 (zeroCmd.cells (.slice none 0 0)) _ (Blk.range (H7.out.1.below b10 H7.out.1.lt)) Tryd.underlying81 rfl cmd_info
      have cE := (H7.out.2.1.below b10 H7.out.2.1.lt).cell 0
      have hend : GetAny a2 bs w (.returned (.tuple #[.agg (zeroCmd.cells (.slice none 0 0)).toArray, errv a2])) W10 :=
        .inr ⟨fun c' hc => (by rw [HP.out] at hc; injection hc with hc; injection hc with _ hc; exact absurd hc HR.out), rfl, H7.out.2.2.trans (b10.mono H7.out.2.2.size)⟩
      have HEND := Lib.hid hend
      clear hend b10
      simp [go_sem] at hld
      simp [Leaves, settle, results, Tryd.results47, go_sem, hld, cE]
      exact HEND.out
end Go.Proofs.YtnlncfjibbdimaaDoor
