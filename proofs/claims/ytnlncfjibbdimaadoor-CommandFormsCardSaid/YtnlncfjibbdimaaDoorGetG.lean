/-
  The walk of command.Get over the bytes of a command in form.
-/
import Derived.Test.YtnlncfjibbdimaaDoorRdr7
namespace Go.Proofs.YtnlncfjibbdimaaDoor
open Go.RowKit
set_option linter.unusedSimpArgs false
set_option linter.unusedVariables false

def GetPost (c : Cmd) (w : World) (e : Ending) (w' : World) : Prop :=
  ∃ pv, e = .returned (.tuple #[.agg (c.cells pv).toArray, .nilIface]) ∧ OwnInts w' w.heap.size w'.heap.size pv c.parts ∧ Below w.heap.size w w'

set_option maxRecDepth 100000 in
set_option maxHeartbeats 3200000 in
theorem get_good (c : Cmd) (hz : c.Sized) (hc : chkB c = true) (hL : Lens c) (hpp : ∀ x ∈ c.parts, inG x) (w : World) (ad : Addr) (cp : Nat) (hl : (putN c).length ≤ 1099511627776) (h256 : ∀ x ∈ putN c, x < 256)
    (hr : Rd w 0 w.heap.size 1 (some ad) (putN c).length (u8s (putN c))) (a1 : Addr) (h1 : w.cell? ⟨1, 0, none⟩ = some (errv a1)) : Calls Tryd.prog 47 #[.slice (some ad) (putN c).length cp] w (GetPost c w) := by
  have hmf : ∀ (fn : Fn) (first cap : Array Value) (w : World), (Instr.makeFunc fn first cap).run Tryd.prog w = .ok (.func fn first cap) w := fun _ _ _ _ => rfl
  have h00 := World.block_lt_of_cell? w _ h1
  have H := Lib.hid (And.intro hz (And.intro hc (And.intro hL (And.intro hpp (And.intro hl (And.intro h256 (And.intro hr h1)))))))
  obtain ⟨n, hn⟩ : ∃ n, n = (putN c).length := ⟨_, rfl⟩
  rw [← hn]
  have HN := Lib.hid hn
  clear hz hc hL hpp hl h256 hr h1 hn
  go_enter_defers Tryd.func47, Tryd.ntmps47
  go_upto_region 2 with (fail)
  refine wp_letter (fun W => Below w.heap.size w W ∧ Blk W w.heap.size 81 #[.int .i64 0, .int .i64 0, .int .i64 0, .int .i64 0, .string ⟨#[]⟩, .string ⟨#[]⟩, .int .i64 0, .int .i64 0, .int .i64 0, .int .i64 0, .int .i64 0, .int .i64 0, .int .i64 0, .string ⟨#[]⟩, .int .i64 0, .slice none 0 0, .int .i64 0, .int .i64 0] ∧ Blk W (w.heap.size + 1) 34 #[.nilIface] ∧ w.heap.size + 2 ≤ W.heap.size)
    ⟨((Below.refl w.heap.size w).alloc (Nat.le_refl _) _).alloc (by simp) _, (Blk.new w 81 _).alloc _, Blk.new1 w _ 34 _, by simp⟩ ?_
  rintro W ⟨hb, hY, hE, hs⟩
  obtain ⟨y, hy⟩ : ∃ y, y = w.heap.size := ⟨_, rfl⟩
  have hk107 := newReader_any W ad cp (putN c) H.out.2.2.2.2.1 H.out.2.2.2.2.2.1 ((H.out.2.2.2.2.2.2.1.fr (Fr.of_below hb (fun _ => False)) (Nat.le_refl _) (fun _ _ _ h => h)).wider (Nat.le_refl _) hb.size)
  rw [← HN.out] at hk107
  rw [← hy] at hY hE hs ⊢
  have HW := Lib.hid (And.intro hb (And.intro hY (And.intro hE (And.intro hs hy))))
  have HK107 := Lib.hid hk107
  clear hb hY hE hs hy hk107
  go_upto_region 3 with (first | (go_at_call 107; refine HK107.out.mono ?_; rintro e w2 ⟨g, rfl, R2, b2⟩; have H2 := Lib.hid (And.intro R2 b2); clear R2 b2) | fail)
  have hg : W.heap.size ≤ g := H2.out.1.1
  have hyW : y + 1 < W.heap.size := by have := HW.out.2.2.2.1; omega
  have hRem : Rem (w2.alloc (.cells #[.pointer (some ⟨g, 0, none⟩)] 187)) W.heap.size g (putN c ++ []) := ⟨putN c, 0, H2.out.1.below ((Below.refl w2.heap.size w2).alloc (Nat.le_refl _) _) (Nat.le_refl _), by simp⟩
  refine wp_letter (fun W3 => Rem W3 W.heap.size g (putN c ++ []) ∧ Below w.heap.size w W3 ∧ Blk W3 y 81 #[.int .i64 0, .int .i64 0, .int .i64 0, .int .i64 0, .string ⟨#[]⟩, .string ⟨#[]⟩, .int .i64 0, .int .i64 0, .int .i64 0, .int .i64 0, .int .i64 0, .int .i64 0, .int .i64 0, .string ⟨#[]⟩, .int .i64 0, .slice none 0 0, .int .i64 0, .int .i64 0] ∧ Blk W3 (y + 1) 34 #[.nilIface] ∧ Blk W3 w2.heap.size 187 #[.pointer (some ⟨g, 0, none⟩)])
    ⟨hRem, (HW.out.1.trans (H2.out.2.mono HW.out.1.size)).alloc (Nat.le_trans HW.out.1.size H2.out.2.size) _, (HW.out.2.1.below H2.out.2 (by omega)).alloc _, (HW.out.2.2.1.below H2.out.2 (by omega)).alloc _, Blk.new w2 187 _⟩ ?_
  have hgt : g < w2.heap.size := H2.out.1.lt
  obtain ⟨t, ht⟩ : ∃ t, t = w2.heap.size := ⟨_, rfl⟩
  rw [← ht] at hgt ⊢
  clear hRem ht
  rintro W3 ⟨hR, hb, hY, hE, hT⟩
  have hyg : y ≠ g := by omega
  have heg : y + 1 ≠ g := by omega
  have htg : t ≠ g := by omega
  have hyt : y ≠ t := by omega
  have het : y + 1 ≠ t := by omega
  have cT := hT.cell
  have k108 := rcmd_good c H.out.2.2.1 H.out.2.2.2.1 W3 W.heap.size g [] hR
  have HS := Lib.hid (And.intro hR (And.intro hb (And.intro hY (And.intro hE hT))))
  have HK := Lib.hid k108
  clear hR hb hY hE hT k108 HK107 H2
  go_upto_region 4 with (first
    | ((with_reducible refine law_store_row 81 (.tmp 2) (.tmp 10) y 81 #[.int .i64 0, .int .i64 0, .int .i64 0, .int .i64 0, .string ⟨#[]⟩, .string ⟨#[]⟩, .int .i64 0, .int .i64 0, .int .i64 0, .int .i64 0, .int .i64 0, .int .i64 0, .int .i64 0, .string ⟨#[]⟩, .int .i64 0, .slice none 0 0, .int .i64 0, .int .i64 0] CS.toArray H4.out.2.2.2.1 ?_ ?_ hc18' hold hone ?_); rfl; rfl; intro W5 hY5 hF5 hs5; have H5 := Lib.hid (And.intro hY5 (And.intro hF5 hs5)); clear hY5 hF5 hs5)
    | (go_at_call 108
       refine HK.out.mono ?_
       rintro e w4 ⟨pv, rfl, ho, hR, hf⟩
       obtain ⟨CS, hCS⟩ : ∃ cs, cs = c.cells pv := ⟨_, rfl⟩
       rw [← hCS]
       have hc18 : (Tryd.prog.info? 81).map (·.size) = some CS.length := by rw [hCS]; exact cmd_info
       have hc18' : (Tryd.prog.info? 81).map (·.size) = some CS.toArray.size := by rw [hCS]; exact cmd_info
       have hold : (#[.int .i64 0, .int .i64 0, .int .i64 0, .int .i64 0, .string ⟨#[]⟩, .string ⟨#[]⟩, .int .i64 0, .int .i64 0, .int .i64 0, .int .i64 0, .int .i64 0, .int .i64 0, .int .i64 0, .string ⟨#[]⟩, .int .i64 0, .slice none 0 0, .int .i64 0, .int .i64 0] : Array Value).size = CS.toArray.size := by rw [hCS]; rfl
       have hone : CS.toArray.all (·.oneCell') = true := by
         obtain ⟨A9, c9, hp9, _⟩ := OwnRow.form ho.1
         rw [hCS, hp9]
         exact cells_oneCell _ _ _ _
       have H4 := Lib.hid (And.intro hCS (And.intro ho (And.intro hR (And.intro (HS.out.2.2.1.keep hf hyg) (And.intro (HS.out.2.2.2.1.keep hf heg) (And.intro (HS.out.2.2.2.2.keep hf htg) hf))))))
       clear ho hR hf hCS)
    | fail)
  have hT5 := H4.out.2.2.2.2.2.1.fr H5.out.2.1 H4.out.2.2.2.2.2.1.lt (Ne.symm hyt)
  have hE5 := H4.out.2.2.2.2.1.fr H5.out.2.1 H4.out.2.2.2.2.1.lt (by omega)
  have hR5 := H4.out.2.2.1.fr1 H5.out.2.1 H4.out.2.2.2.1 (by decide) hyg
  have ho5 := H4.out.2.1.frz H5.out.2.1 H4.out.2.2.2.1 (by decide)
  have hb5 : Below w.heap.size w W5 := by
    have f4 : Fr w.heap.size (fun _ => False) w w4 := (Fr.of_below HS.out.2.1 _).trans ((H4.out.2.2.2.2.2.2.mono (HS.out.2.1.size) (S' := fun _ => False) (fun k hk he => by have := HW.out.1.size; omega)))
    have f5 := f4.trans (H5.out.2.1.mono (S' := fun _ => False) (f4.size) (fun k hk he => by have := HW.out.2.2.2.2; omega))
    exact f5.below (fun _ _ h => h)
  have k109 := end_good W5 W.heap.size g hR5
  have cT := hT5.cell
  have HF := Lib.hid (And.intro hE5 (And.intro ho5 (And.intro hb5 (And.intro H5.out.1 H4.out.1))))
  have HK9 := Lib.hid k109
  have hnil : (if chkB c = true then Value.nilIface else errv a1) = Value.nilIface := by rw [H.out.2.1]; rfl
  have HNIL := Lib.hid hnil
  have HS3 := Lib.hid HS.out.2.1.size
  clear hT5 hE5 hR5 ho5 hb5 k109 hnil HS HK
  go_upto_region 6 with (fail)
  refine HK9.out.mono ?_
  rintro e w6 ⟨rfl, b6⟩
  have hld := run_loadVar_mid (P := Tryd.prog) w6 y 0 81 CS _ (HF.out.2.2.2.1.below b6 HF.out.2.2.2.1.lt).range Tryd.underlying81 rfl hc18
  obtain ⟨A9, c9, hp9, _⟩ := OwnRow.form H4.out.2.1.1
  have k43 := check_any c H.out.1 w6 W3.heap.size W5.heap.size pv ((HF.out.2.1.wider (Nat.le_refl _) (Nat.le_of_eq H5.out.2.2.symm)).at_.fr (Fr.of_below b6 (fun _ => False)) (Nat.le_refl _) (fun _ _ _ h => h)) b6.size a1 (by rw [b6.cell (Nat.lt_of_lt_of_le h00 HF.out.2.2.1.size), HF.out.2.2.1.cell h00]; exact H.out.2.2.2.2.2.2.2)
  rw [← HF.out.2.2.2.2] at k43
  have HK43 := Lib.hid k43
  have H6 := Lib.hid b6
  clear k43 b6 hp9
  simp [go_sem] at hld
  go_upto_region 6 with (fail)
  refine HK43.out.mono ?_
  rintro e w7 ⟨rfl, b7⟩
  rw [HNIL.out]
  have b57 := H6.out.trans (b7.mono H6.out.size)
  have hY7 := HF.out.2.2.2.1.below b57 HF.out.2.2.2.1.lt
  have hE7 := HF.out.1.below b57 HF.out.1.lt
  have ho7 := (HF.out.2.1.wider (Nat.le_refl _) (Nat.le_of_eq H5.out.2.2.symm)).fr (Fr.of_below b57 (fun _ => False)) (Nat.le_refl _) (fun _ _ _ h => h)
  have hb7 := HF.out.2.2.1.trans (b57.mono HF.out.2.2.1.size)
  have hr7 := hY7.range
  have H7 := Lib.hid (And.intro hY7 (And.intro hE7 (And.intro ho7 (And.intro hb7 (And.intro hr7 b57.size)))))
  clear hY7 hE7 ho7 hb7 hr7 b57 b7 hld HK43 HK9 cT
  go_wp2_with (first
    | ((with_reducible refine law_load 81 (.tmp 2) y 0 CS ?_ H7.out.2.2.2.2.1 Tryd.underlying81 ?_ hc18 ?_); rfl; rfl)
    | ((with_reducible refine law_store_row 81 (.tmp 2) (.tmp 22) y 81 CS.toArray CS.toArray H7.out.1 ?_ ?_ hc18' rfl hone ?_); rfl; rfl; intro W8 hY8 hF8 hs8; have hE8 := H7.out.2.1.fr hF8 H7.out.2.1.lt (by omega); have cE := hE8.cell; have fE := hE8.frozen; have H8 := Lib.hid (And.intro hY8 (And.intro hF8 (And.intro hs8 hE8))); clear hY8 hF8 hs8 hE8)
    | fail)
  have hY9 := H8.out.1.far (p := ⟨y + 1, 0, none⟩) (by simp) .nilIface
  have hE9 := H8.out.2.2.2.set_ 0 .nilIface
  have hF9 : Fr w.heap.size (fun _ => False) w W8 := (Fr.of_below H7.out.2.2.2.1 _).trans (H8.out.2.1.mono (S' := fun _ => False) H7.out.2.2.2.1.size (fun k hk he => by have := HW.out.2.2.2.2; omega))
  have hB9 : Below w.heap.size w (W8.setCell ⟨y + 1, 0, none⟩ .nilIface) := (hF9.below (fun _ _ h => h)).setCell (p := ⟨y + 1, 0, none⟩) (by have := HW.out.2.2.2.2; simp; omega) _
  have ho9 := (H7.out.2.2.1.wider (Nat.le_refl _) H7.out.2.2.2.2.2).frz H8.out.2.1 H7.out.1 (by decide)
  have ho9' : OwnInts (W8.setCell ⟨y + 1, 0, none⟩ .nilIface) W3.heap.size w7.heap.size pv c.parts := ⟨⟨ownsRow_far ho9.1.1 H8.out.2.2.2 (by decide), ho9.1.2⟩, ho9.2⟩
  have hsz : w7.heap.size ≤ (W8.setCell ⟨y + 1, 0, none⟩ .nilIface).heap.size := by have := H8.out.2.2.1; simp; omega
  have H9 := Lib.hid (And.intro hY9 (And.intro hE9 (And.intro hB9 (And.intro ho9' hsz))))
  clear hY9 hE9 hF9 hB9 ho9 ho9' hsz cE fE
  refine leaves_cons (f := 106) (args := #[.pointer (some ⟨y, 0, none⟩), .pointer (some ⟨y + 1, 0, none⟩)]) (by simp) (by simp [go_sem]) ?_
  refine (get_idle ⟨y, 0, none⟩ ⟨y + 1, 0, none⟩ _).mono ?_
  rintro e u' W10 ⟨rfl, rfl, b10⟩
  have hld := run_loadVar_mid (P := Tryd.prog) W10 y 0 81 CS _ (H9.out.1.below b10 H9.out.1.lt).range Tryd.underlying81 rfl hc18
  have cE := (H9.out.2.1.below b10 H9.out.2.1.lt).cell
  have hend : GetPost c w (.returned (.tuple #[.agg CS.toArray, .nilIface])) W10 := by
    rw [HF.out.2.2.2.2]
    refine ⟨pv, rfl, ?_, H9.out.2.2.1.trans (b10.mono H9.out.2.2.1.size)⟩
    exact ((H9.out.2.2.2.1.wider (Nat.le_refl _) H9.out.2.2.2.2).fr (Fr.of_below b10 (fun _ => False)) (Nat.le_refl _) (fun _ _ _ h => h)).wider HS3.out b10.size
  have HEND := Lib.hid hend
  clear hend b10
  simp [go_sem] at hld
  simp [Leaves, settle, results, Tryd.results47, go_sem, hld, cE]
  exact HEND.out

end Go.Proofs.YtnlncfjibbdimaaDoor
